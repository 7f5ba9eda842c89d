/- ThawSums: the walk. -/
import Derived.Test.YtlkecgjpmnganaaThBt
import Derived.Test.YtlkecgjpmnganaaThCopy2
import Derived.Test.YtlkecgjpmnganaaSplit
import Derived.RegionTactic
import Derived.BigQuiet
import Derived.BigRegion
import Derived.Test.YtlkecgjpmnganaaThCrop
import Derived.Test.YtlkecgjpmnganaaThGives2
import Derived.Test.YtlkecgjpmnganaaThKnown
import Derived.Deep.CutRange
set_option linter.unusedSimpArgs false
set_option linter.unusedVariables false
namespace Go.Proofs.Ytlkecgjpmnganaa
open Go.RowKit Go.Shelf

theorem infoGp : (Try.prog.info? 102).map (fun i => (i.zero, i.size, i.bytes)) = some (some (.agg #[.int .i64 0, .int .i64 0, .int .i64 0]), 3, 24) := by kernel_rfl
theorem gp_at1 {W : World} {b : Nat} {t l h : Int} (h0 : W.cell? ⟨b, 0, none⟩ = some (.int .i64 t)) (h1 : W.cell? ⟨b, 1, none⟩ = some (.int .i64 l)) (h2 : W.cell? ⟨b, 2, none⟩ = some (.int .i64 h)) (hb : b < W.heap.size) : gpL.at W 0 (some ⟨b, 0, none⟩) [⟨t, l, h⟩] := by
  intro _
  refine ⟨b, 0, rfl, Nat.zero_le _, hb, fun j i hj hi => ?_⟩
  obtain rfl : j = 0 := by simpa using hj
  have hi3 : i < 3 := hi
  have : i = 0 ∨ i = 1 ∨ i = 2 := by omega
  rcases this with rfl | rfl | rfl
  · exact h0
  · exact h1
  · exact h2
theorem gp_at2 {W : World} {b : Nat} {t l h t' l' h' : Int} (h0 : W.cell? ⟨b, 0, none⟩ = some (.int .i64 t)) (h1 : W.cell? ⟨b, 1, none⟩ = some (.int .i64 l)) (h2 : W.cell? ⟨b, 2, none⟩ = some (.int .i64 h))
    (h3 : W.cell? ⟨b, 3, none⟩ = some (.int .i64 t')) (h4 : W.cell? ⟨b, 4, none⟩ = some (.int .i64 l')) (h5 : W.cell? ⟨b, 5, none⟩ = some (.int .i64 h')) (hb : b < W.heap.size) : gpL.at W 0 (some ⟨b, 0, none⟩) [⟨t, l, h⟩, ⟨t', l', h'⟩] := by
  intro _
  refine ⟨b, 0, rfl, Nat.zero_le _, hb, fun j i hj hi => ?_⟩
  have hj2 : j < 2 := hj
  have hi3 : i < 3 := hi
  have : i = 0 ∨ i = 1 ∨ i = 2 := by omega
  have : j = 0 ∨ j = 1 := by omega
  rcases this with rfl | rfl <;> rcases ‹i = 0 ∨ i = 1 ∨ i = 2› with rfl | rfl | rfl
  · exact h0
  · exact h1
  · exact h2
  · exact h3
  · exact h4
  · exact h5

theorem errG_one {r : TR} (hr : okRules r = true) {g : Gp} (hg : okG g = true) : errG r [g] = 0 := by simp [errG, hr, hg]
theorem errG_two {r : TR} (hr : okRules r = true) {g g' : Gp} (hg : okG g = true) (hg' : okG g' = true) : errG r [g, g'] = 0 := by simp [errG, hr, hg, hg']
theorem sumR_one (x : R) : sumR [x] = x := by cases x; simp [sumR]
theorem sumR_two (x y : R) : sumR [x, y] = ⟨x.lo + y.lo, x.hi + y.hi⟩ := by simp [sumR]
theorem errG_parts {r : TR} {gs : List Gp} (h : errG r gs = 0) : okRules r = true ∧ gs.length ≤ 60 ∧ ∀ g ∈ gs, okG g = true := by
  unfold errG at h
  cases hr : okRules r with
  | false => rw [hr] at h; simp at h
  | true =>
    rw [hr] at h
    by_cases hl : 60 < gs.length
    · simp [hl] at h
    · cases ha : gs.all okG with
      | false => simp [hl, ha] at h
      | true => exact ⟨rfl, by omega, fun g hg => List.all_eq_true.1 ha g hg⟩
theorem errG_two' {r : TR} {gs : List Gp} (hl : gs.length ≤ 60) (h : errG r gs ≠ 0) : errG r gs = 2 := by
  unfold errG at h ⊢
  cases hr : okRules r with
  | false => simp
  | true =>
    rw [hr] at h
    have hn : ¬ 60 < gs.length := by omega
    cases ha : gs.all okG with
    | false => simp [hn]
    | true => simp [hn, ha] at h

/-- two groups and one with the taps of both -/
theorem seven_five (P : Int) (h : 0 ≤ P) : 12 * P / 10000 ≥ 7 * P / 10000 + 5 * P / 10000 ∧ 12 * P / 10000 ≤ 7 * P / 10000 + 5 * P / 10000 + 1 := by omega
theorem seven_five' (P : Int) (h : 0 ≤ P) : (12 * P + 10000 - 1) / 10000 ≤ (7 * P + 10000 - 1) / 10000 + (5 * P + 10000 - 1) / 10000 ∧ (12 * P + 10000 - 1) / 10000 ≥ (7 * P + 10000 - 1) / 10000 + (5 * P + 10000 - 1) / 10000 - 1 := by omega
theorem give_seven {r : TR} (hr : TROk r) {lo hi lo' : Int} (h0 : 0 ≤ lo) (h1 : lo ≤ hi) (h2 : hi ≤ 10000) (h3 : lo ≤ lo') (h4 : lo' ≤ 10000) :
    let b := sumR [giveR r ⟨7, lo, hi⟩, giveR r ⟨5, lo, hi⟩]
    let o := giveR r ⟨12, lo, hi⟩
    let m := giveR r ⟨12, lo', 10000⟩
    ¬ o.lo < b.lo ∧ ¬ b.lo + 1 < o.lo ∧ ¬ b.hi < o.hi ∧ ¬ o.hi < b.hi - 1 ∧ ¬ m.hi < o.hi := by
  intro b o m
  have r1 := hr.r1; have r2 := hr.r2; have r3 := hr.r3; have p1 := hr.p1; have p2 := hr.p2
  have e1 : b = ⟨7 * r.rlow * (10000 + r.pull * lo) / 10000 + 5 * r.rlow * (10000 + r.pull * lo) / 10000, (7 * r.rhigh * (10000 + r.pull * hi) + 10000 - 1) / 10000 + (5 * r.rhigh * (10000 + r.pull * hi) + 10000 - 1) / 10000⟩ := by
    show sumR _ = _; rw [sumR_two]; rfl
  have e2 : o = ⟨12 * r.rlow * (10000 + r.pull * lo) / 10000, (12 * r.rhigh * (10000 + r.pull * hi) + 10000 - 1) / 10000⟩ := rfl
  have e3 : m = ⟨12 * r.rlow * (10000 + r.pull * lo') / 10000, (12 * r.rhigh * (10000 + r.pull * 10000) + 10000 - 1) / 10000⟩ := rfl
  have n1 : 0 ≤ r.pull * lo := Int.mul_nonneg p1 h0
  have n2 : 0 ≤ r.pull * hi := Int.mul_nonneg p1 (by omega)
  have n3 : r.pull * hi ≤ r.pull * 10000 := Int.mul_le_mul_of_nonneg_left h2 p1
  have n4 : 0 ≤ r.rlow * (10000 + r.pull * lo) := Int.mul_nonneg r1 (by omega)
  have n5 : 0 ≤ r.rhigh * (10000 + r.pull * hi) := Int.mul_nonneg (by omega) (by omega)
  have n6 : r.rhigh * (10000 + r.pull * hi) ≤ r.rhigh * (10000 + r.pull * 10000) := Int.mul_le_mul_of_nonneg_left (by omega) (by omega)
  have a1 : ∀ k : Int, k * r.rlow * (10000 + r.pull * lo) = k * (r.rlow * (10000 + r.pull * lo)) := fun k => Int.mul_assoc _ _ _
  have a2 : ∀ k x : Int, k * r.rhigh * x = k * (r.rhigh * x) := fun k x => Int.mul_assoc _ _ _
  rw [e1, e2, e3]
  simp only [a1, a2]
  have s1 := seven_five _ n4
  have s2 := seven_five' _ n5
  generalize r.rlow * (10000 + r.pull * lo) = P at *
  generalize r.rhigh * (10000 + r.pull * hi) = Q at *
  generalize r.rhigh * (10000 + r.pull * 10000) = Z at *
  omega

noncomputable def sumsTail13 : Code := dropC 13 (bodyC Try.f13)
set_option maxRecDepth 100000 in
set_option maxHeartbeats 4000000 in
theorem sums_t13 {z0 z2 z4 z6 z9 z10 z11 z12 z13 z14 z15 z16 z17 z18 z19 z21 z22 z23 z24 z25 z26 z27 z28 z29 z30 z31 z32 z33 z34 z35 z36 z37 z38 z39 z40 z41 z42 z43 z44 z45 z46 z47 z48 z49 z50 z51 z52 z53 z54 z55 z56 z57 z58 z59 z60 z61 z62 z63 z64 z65 z66 z67 z68 z69 z70 z71 z72 z73 z74 z75 z76 z77 z78 z79 z80 z81 z82 z83 z84 z85 z86 z87 z88 z89 z90 z91 z92 z93 z94 z95 z96 z97 z98 z99 z100 z101 z102 z103 z104 z105 z106 z107 z108 z109 z110 z111 z112 z113 z114 z115 z116 z117 z118 z119 z120 z121 z122 z123 z124 z125 z126 z127 z128 z129 z130 z131 z132 z133 z134 z135 z136 z137 z138 z139 z140 z141 z142 z143 z144 z145 z146 z147 z148 z149 z150 z151 z152 z153 z154 z155 z156 z157 z158 z159 z160 z161 z162 z163 z164 z165 z166 z167 z168 z169 z170 z171 z172 z173 z174 z175 z176 z177 z178 z179 z180 z181 z182 z183 z184 z185 z186 z187 z188 z189 z190 z191 z192 z193 z194 z195 z196 z197 z198 z199 z200 z201 z202 z203 z204 z205 z206 z207 z208 z209 z210 z211 z212 z213 z214 z215 z216 z217 z218 z219 z220 z221 z222 z223 z224 z225 z226 z227 z228 z229 z230 z231 z232 z233 z234 z235 z236 z237 z238 z239 z240 z241 z242 z243 z244 z245 z246 z247 z248 z249 z250 z251 z252 z253 z254 z255 z256 z257 z258 z259 z260 z261 z262 z263 z264 z265 z266 z267 z268 z269 z270 z271 z272 z273 z274 z275 z276 z277 z278 z279 z280 z281 z282 : Value} (r : TR) (x0 x1 : Int) (lo : Nat) (A : Option Addr) (n cc : Nat) (gs : List Gp) (w : World) (HX : Aside (gpL.at w lo A gs)) (h0 : A = none → n = 0 ∧ cc = 0) (hn : Aside (gs.length = n)) (hl1 : 1 ≤ n) (hl : n ≤ 30) (bx0 : 0 ≤ x0 ∧ x0 ≤ 65535) (bx1 : 0 ≤ x1 ∧ x1 ≤ 65535) (wE : World) (hBA : Below w.heap.size w wE) (a0 a1 : Int) (ha0 : 0 ≤ a0) (ha1 : a0 ≤ a1) (ha2 : a1 ≤ 606000000000) (hl0 : w.heap.size + 1 < wE.heap.size) (b7 b20 : Nat) (l7 : b7 < wE.heap.size) (l20 : b20 < wE.heap.size) (q0 : wE.cell? ⟨w.heap.size, 0, none⟩ = some (.int .i64 r.frost)) (q1 : wE.cell? ⟨w.heap.size, 1, none⟩ = some (.int .i64 r.thaw)) (q2 : wE.cell? ⟨w.heap.size, 2, none⟩ = some (.int .i64 r.gain)) (q3 : wE.cell? ⟨w.heap.size, 3, none⟩ = some (.int .i64 r.full)) (q4 : wE.cell? ⟨w.heap.size, 4, none⟩ = some (.int .i64 r.ice)) (q5 : wE.cell? ⟨w.heap.size, 5, none⟩ = some (.int .i64 r.most)) (q6 : wE.cell? ⟨w.heap.size, 6, none⟩ = some (.int .i64 r.melt)) (q7 : wE.cell? ⟨w.heap.size, 7, none⟩ = some (.int .i64 r.rlow)) (q8 : wE.cell? ⟨w.heap.size, 8, none⟩ = some (.int .i64 r.rhigh)) (q9 : wE.cell? ⟨w.heap.size, 9, none⟩ = some (.int .i64 r.pull)) (s0 : wE.cell? ⟨w.heap.size + 1, 0, none⟩ = some (.int .u16 x0)) (s1 : wE.cell? ⟨w.heap.size + 1, 1, none⟩ = some (.int .u16 x1)) (c70 : wE.cell? ⟨b7, 0, none⟩ = some (.int .i64 a0)) (c71 : wE.cell? ⟨b7, 1, none⟩ = some (.int .i64 a1)) (e0 : wE.cell? ⟨b20, 0, none⟩ = some (.int .i64 (a0 * (x0 % 20)))) (e1 : wE.cell? ⟨b20, 1, none⟩ = some (.int .i64 (a1 * (x0 % 20 + x1 % 20)))) :
    Code.wp Try.prog sumsTail13 (bodyPost Try.prog Try.f13 fun e w' => e = .returned (.bool true) ∧ Below w.heap.size w w') ⟨List.toArray (z0 :: .slice A n cc :: z2 :: .pointer (some ⟨w.heap.size, 0, none⟩) :: z4 :: .pointer (some ⟨w.heap.size + 1, 0, none⟩) :: z6 :: .pointer (some ⟨b7, 0, none⟩) :: .int .i64 0 :: z9 :: z10 :: z11 :: z12 :: z13 :: z14 :: z15 :: z16 :: z17 :: z18 :: z19 :: .pointer (some ⟨b20, 0, none⟩) :: z21 :: z22 :: z23 :: z24 :: z25 :: z26 :: z27 :: z28 :: z29 :: z30 :: z31 :: z32 :: z33 :: z34 :: z35 :: z36 :: z37 :: z38 :: z39 :: z40 :: z41 :: z42 :: z43 :: z44 :: z45 :: z46 :: z47 :: z48 :: z49 :: z50 :: z51 :: z52 :: z53 :: z54 :: z55 :: z56 :: z57 :: z58 :: z59 :: z60 :: z61 :: z62 :: z63 :: z64 :: z65 :: z66 :: z67 :: z68 :: z69 :: z70 :: z71 :: z72 :: z73 :: z74 :: z75 :: z76 :: z77 :: z78 :: z79 :: z80 :: z81 :: z82 :: z83 :: z84 :: z85 :: z86 :: z87 :: z88 :: z89 :: z90 :: z91 :: z92 :: z93 :: z94 :: z95 :: z96 :: z97 :: z98 :: z99 :: z100 :: z101 :: z102 :: z103 :: z104 :: z105 :: z106 :: z107 :: z108 :: z109 :: z110 :: z111 :: z112 :: z113 :: z114 :: z115 :: z116 :: z117 :: z118 :: z119 :: z120 :: z121 :: z122 :: z123 :: z124 :: z125 :: z126 :: z127 :: z128 :: z129 :: z130 :: z131 :: z132 :: z133 :: z134 :: z135 :: z136 :: z137 :: z138 :: z139 :: z140 :: z141 :: z142 :: z143 :: z144 :: z145 :: z146 :: z147 :: z148 :: z149 :: z150 :: z151 :: z152 :: z153 :: z154 :: z155 :: z156 :: z157 :: z158 :: z159 :: z160 :: z161 :: z162 :: z163 :: z164 :: z165 :: z166 :: z167 :: z168 :: z169 :: z170 :: z171 :: z172 :: z173 :: z174 :: z175 :: z176 :: z177 :: z178 :: z179 :: z180 :: z181 :: z182 :: z183 :: z184 :: z185 :: z186 :: z187 :: z188 :: z189 :: z190 :: z191 :: z192 :: z193 :: z194 :: z195 :: z196 :: z197 :: z198 :: z199 :: z200 :: z201 :: z202 :: z203 :: z204 :: z205 :: z206 :: z207 :: z208 :: z209 :: z210 :: z211 :: z212 :: z213 :: z214 :: z215 :: z216 :: z217 :: z218 :: z219 :: z220 :: z221 :: z222 :: z223 :: z224 :: z225 :: z226 :: z227 :: z228 :: z229 :: z230 :: z231 :: z232 :: z233 :: z234 :: z235 :: z236 :: z237 :: z238 :: z239 :: z240 :: z241 :: z242 :: z243 :: z244 :: z245 :: z246 :: z247 :: z248 :: z249 :: z250 :: z251 :: z252 :: z253 :: z254 :: z255 :: z256 :: z257 :: z258 :: z259 :: z260 :: z261 :: z262 :: z263 :: z264 :: z265 :: z266 :: z267 :: z268 :: z269 :: z270 :: z271 :: z272 :: z273 :: z274 :: z275 :: z276 :: z277 :: z278 :: z279 :: z280 :: z281 :: z282 :: []), []⟩ wE := by
  conv => arg 2; simp only [sumsTail13, bodyC, Try.f13, Option.getD_some, dropC, mkC]
  have hkn := fun (W : World) => known_any W
  have hm1 := fun P0 P1 C W => missing_any P0 P1 C W
  have y0 : 0 ≤ x0 % 20 ∧ x0 % 20 ≤ 19 := by omega
  have y1 : 0 ≤ x1 % 20 ∧ x1 % 20 ≤ 19 := by omega
  have p1 : 0 ≤ a0 * (x0 % 20) := Int.mul_nonneg ha0 y0.1
  have p2 : a0 * (x0 % 20) ≤ a1 * (x0 % 20 + x1 % 20) := Int.mul_le_mul ha1 (by omega) y0.1 (by omega)
  have p3 : a1 * (x0 % 20 + x1 % 20) ≤ 606000000000 * 38 := Int.mul_le_mul ha2 (by omega) (by omega) (by omega)
  have hsz := hBA.size
  have hne20 : ¬ x0 < 0 := by omega
  have hne21 : ¬ x1 < 0 := by omega
  go_upto_region 25 with fail
  generalize a0 * (x0 % 20) = P0 at e0 p1 p2 ⊢
  generalize a1 * (x0 % 20 + x1 % 20) = P1 at e1 p2 p3 ⊢
  have h1 := fun W => hm1 P0 P1 P0 W
  have h2 := fun W => hm1 P0 P1 P1 W
  have m1 : missS P0 P1 P0 = (⟨0, P1 - P0⟩, 0) := by
    unfold missS
    rw [if_neg (by simp [btw]; omega), if_neg (by simp [btw]; omega), if_neg (by omega), show max 0 (P0 - P0) = 0 by omega]
  have m2 : missS P0 P1 P1 = (⟨0, 0⟩, 0) := by
    unfold missS
    rw [if_neg (by simp [btw]; omega), if_neg (by simp [btw]; omega), if_neg (by omega), show max 0 (P0 - P1) = 0 by omega, show P1 - P1 = 0 by omega]
  rw [m1] at h1
  rw [m2] at h2
  simp only [R.val] at h1 h2
  clear hm1 m1 m2
  go_wp2_with fail
  refine (h1 _).mono ?_
  rintro e wF ⟨rfl, hbF⟩
  have hzF := hbF.size
  replace e0 := (hbF.cell (p := ⟨b20, 0, none⟩) l20).trans e0
  replace e1 := (hbF.cell (p := ⟨b20, 1, none⟩) l20).trans e1
  have lF : b20 < wF.heap.size := by omega
  have hBF : Below w.heap.size w wF := btS hBA (Nat.le_refl _) hbF
  go_upto_region 26 with fail
  obtain ⟨G0, hNG0⟩ : ∃ X, X = wF.alloc (.cells #[.int .i64 0, .int .i64 (P1 - P0)] 23) := ⟨_, rfl⟩
  have hsG0 : G0.heap.size = wF.heap.size + 1 := by rw [hNG0]; simp
  have hbG0 : Below wF.heap.size wF G0 := by rw [hNG0]; exact (Below.refl _ _).alloc (Nat.le_refl _) _
  have d0 : G0.cell? ⟨wF.heap.size, 0, none⟩ = some (.int .i64 0) := by rw [hNG0]; simp [go_sem]
  have d1 : G0.cell? ⟨wF.heap.size, 1, none⟩ = some (.int .i64 (P1 - P0)) := by rw [hNG0]; simp [go_sem]
  rw [← hNG0]
  clear hNG0
  have hBWG : Below wF.heap.size wF G0 := hbG0
  clear hbG0
  replace e0 := (hBWG.cell (p := ⟨b20, 0, none⟩) lF).trans e0
  replace e1 := (hBWG.cell (p := ⟨b20, 1, none⟩) lF).trans e1
  have lG : b20 < G0.heap.size := by omega
  have hBG : Below w.heap.size w G0 := btS hBF (Nat.le_refl _) hBWG
  have lg0 : wF.heap.size < G0.heap.size := by omega
  go_wp2_with fail
  refine (h2 _).mono ?_
  rintro e wH ⟨rfl, hbH⟩
  have hzH := hbH.size
  replace e0 := (hbH.cell (p := ⟨b20, 0, none⟩) lG).trans e0
  replace e1 := (hbH.cell (p := ⟨b20, 1, none⟩) lG).trans e1
  replace d0 := (hbH.cell (p := ⟨wF.heap.size, 0, none⟩) lg0).trans d0
  replace d1 := (hbH.cell (p := ⟨wF.heap.size, 1, none⟩) lg0).trans d1
  have hBH : Below w.heap.size w wH := btS hBG (Nat.le_refl _) hbH
  have lH : b20 < wH.heap.size := by omega
  have lg1 : wF.heap.size < wH.heap.size := by omega
  have wd : wrap64 (P1 - P0) = P1 - P0 := IntWalk.wrap64_in _ ⟨by omega, by omega⟩
  go_wp2_with fail
  refine (hkn _).mono ?_
  rintro e wK ⟨rfl, hbK⟩
  go_wp2
  go_ret
  exact ⟨rfl, btS (hBH.alloc hBH.size _) (Nat.le_refl _) hbK⟩

noncomputable def sumsTail12 : Code := dropC 12 (bodyC Try.f13)
set_option maxRecDepth 100000 in
set_option maxHeartbeats 4000000 in
theorem sums_t12 {z0 z2 z4 z6 z8 z9 z10 z11 z12 z13 z14 z15 z16 z17 z18 z19 z20 z21 z22 z23 z24 z25 z26 z27 z28 z29 z30 z31 z32 z33 z34 z35 z36 z37 z38 z39 z40 z41 z42 z43 z44 z45 z46 z47 z48 z49 z50 z51 z52 z53 z54 z55 z56 z57 z58 z59 z60 z61 z62 z63 z64 z65 z66 z67 z68 z69 z70 z71 z72 z73 z74 z75 z76 z77 z78 z79 z80 z81 z82 z83 z84 z85 z86 z87 z88 z89 z90 z91 z92 z93 z94 z95 z96 z97 z98 z99 z100 z101 z102 z103 z104 z105 z106 z107 z108 z109 z110 z111 z112 z113 z114 z115 z116 z117 z118 z119 z120 z121 z122 z123 z124 z125 z126 z127 z128 z129 z130 z131 z132 z133 z134 z135 z136 z137 z138 z139 z140 z141 z142 z143 z144 z145 z146 z147 z148 z149 z150 z151 z152 z153 z154 z155 z156 z157 z158 z159 z160 z161 z162 z163 z164 z165 z166 z167 z168 z169 z170 z171 z172 z173 z174 z175 z176 z177 z178 z179 z180 z181 z182 z183 z184 z185 z186 z187 z188 z189 z190 z191 z192 z193 z194 z195 z196 z197 z198 z199 z200 z201 z202 z203 z204 z205 z206 z207 z208 z209 z210 z211 z212 z213 z214 z215 z216 z217 z218 z219 z220 z221 z222 z223 z224 z225 z226 z227 z228 z229 z230 z231 z232 z233 z234 z235 z236 z237 z238 z239 z240 z241 z242 z243 z244 z245 z246 z247 z248 z249 z250 z251 z252 z253 z254 z255 z256 z257 z258 z259 z260 z261 z262 z263 z264 z265 z266 z267 z268 z269 z270 z271 z272 z273 z274 z275 z276 z277 z278 z279 z280 z281 z282 : Value} (r : TR) (x0 x1 : Int) (lo : Nat) (A : Option Addr) (n cc : Nat) (gs : List Gp) (w : World) (HX : Aside (gpL.at w lo A gs)) (h0 : A = none → n = 0 ∧ cc = 0) (hn : Aside (gs.length = n)) (hl1 : 1 ≤ n) (hl : n ≤ 30) (bx0 : 0 ≤ x0 ∧ x0 ≤ 65535) (bx1 : 0 ≤ x1 ∧ x1 ≤ 65535) (wD : World) (hBA : Below w.heap.size w wD) (a0 a1 : Int) (ha0 : 0 ≤ a0) (ha1 : a0 ≤ a1) (ha2 : a1 ≤ 606000000000) (HE : Aside (errG r gs = 0)) (HS : Aside (sumR (gs.map (giveR r)) = ⟨a0, a1⟩)) (hl0 : w.heap.size + 1 < wD.heap.size) (b7 : Nat) (l7 : b7 < wD.heap.size) (q0 : wD.cell? ⟨w.heap.size, 0, none⟩ = some (.int .i64 r.frost)) (q1 : wD.cell? ⟨w.heap.size, 1, none⟩ = some (.int .i64 r.thaw)) (q2 : wD.cell? ⟨w.heap.size, 2, none⟩ = some (.int .i64 r.gain)) (q3 : wD.cell? ⟨w.heap.size, 3, none⟩ = some (.int .i64 r.full)) (q4 : wD.cell? ⟨w.heap.size, 4, none⟩ = some (.int .i64 r.ice)) (q5 : wD.cell? ⟨w.heap.size, 5, none⟩ = some (.int .i64 r.most)) (q6 : wD.cell? ⟨w.heap.size, 6, none⟩ = some (.int .i64 r.melt)) (q7 : wD.cell? ⟨w.heap.size, 7, none⟩ = some (.int .i64 r.rlow)) (q8 : wD.cell? ⟨w.heap.size, 8, none⟩ = some (.int .i64 r.rhigh)) (q9 : wD.cell? ⟨w.heap.size, 9, none⟩ = some (.int .i64 r.pull)) (s0 : wD.cell? ⟨w.heap.size + 1, 0, none⟩ = some (.int .u16 x0)) (s1 : wD.cell? ⟨w.heap.size + 1, 1, none⟩ = some (.int .u16 x1)) (c70 : wD.cell? ⟨b7, 0, none⟩ = some (.int .i64 a0)) (c71 : wD.cell? ⟨b7, 1, none⟩ = some (.int .i64 a1)) :
    Code.wp Try.prog sumsTail12 (bodyPost Try.prog Try.f13 fun e w' => e = .returned (.bool true) ∧ Below w.heap.size w w') ⟨List.toArray (z0 :: .slice A n cc :: z2 :: .pointer (some ⟨w.heap.size, 0, none⟩) :: z4 :: .pointer (some ⟨w.heap.size + 1, 0, none⟩) :: z6 :: .pointer (some ⟨b7, 0, none⟩) :: z8 :: z9 :: z10 :: z11 :: z12 :: z13 :: z14 :: z15 :: z16 :: z17 :: z18 :: z19 :: z20 :: z21 :: z22 :: z23 :: z24 :: z25 :: z26 :: z27 :: z28 :: z29 :: z30 :: z31 :: z32 :: z33 :: z34 :: z35 :: z36 :: z37 :: z38 :: z39 :: z40 :: z41 :: z42 :: z43 :: z44 :: z45 :: z46 :: z47 :: z48 :: z49 :: z50 :: z51 :: z52 :: z53 :: z54 :: z55 :: z56 :: z57 :: z58 :: z59 :: z60 :: z61 :: z62 :: z63 :: z64 :: z65 :: z66 :: z67 :: z68 :: z69 :: z70 :: z71 :: z72 :: z73 :: z74 :: z75 :: z76 :: z77 :: z78 :: z79 :: z80 :: z81 :: z82 :: z83 :: z84 :: z85 :: z86 :: z87 :: z88 :: z89 :: z90 :: z91 :: z92 :: z93 :: z94 :: z95 :: z96 :: z97 :: z98 :: z99 :: z100 :: z101 :: z102 :: z103 :: z104 :: z105 :: z106 :: z107 :: z108 :: z109 :: z110 :: z111 :: z112 :: z113 :: z114 :: z115 :: z116 :: z117 :: z118 :: z119 :: z120 :: z121 :: z122 :: z123 :: z124 :: z125 :: z126 :: z127 :: z128 :: z129 :: z130 :: z131 :: z132 :: z133 :: z134 :: z135 :: z136 :: z137 :: z138 :: z139 :: z140 :: z141 :: z142 :: z143 :: z144 :: z145 :: z146 :: z147 :: z148 :: z149 :: z150 :: z151 :: z152 :: z153 :: z154 :: z155 :: z156 :: z157 :: z158 :: z159 :: z160 :: z161 :: z162 :: z163 :: z164 :: z165 :: z166 :: z167 :: z168 :: z169 :: z170 :: z171 :: z172 :: z173 :: z174 :: z175 :: z176 :: z177 :: z178 :: z179 :: z180 :: z181 :: z182 :: z183 :: z184 :: z185 :: z186 :: z187 :: z188 :: z189 :: z190 :: z191 :: z192 :: z193 :: z194 :: z195 :: z196 :: z197 :: z198 :: z199 :: z200 :: z201 :: z202 :: z203 :: z204 :: z205 :: z206 :: z207 :: z208 :: z209 :: z210 :: z211 :: z212 :: z213 :: z214 :: z215 :: z216 :: z217 :: z218 :: z219 :: z220 :: z221 :: z222 :: z223 :: z224 :: z225 :: z226 :: z227 :: z228 :: z229 :: z230 :: z231 :: z232 :: z233 :: z234 :: z235 :: z236 :: z237 :: z238 :: z239 :: z240 :: z241 :: z242 :: z243 :: z244 :: z245 :: z246 :: z247 :: z248 :: z249 :: z250 :: z251 :: z252 :: z253 :: z254 :: z255 :: z256 :: z257 :: z258 :: z259 :: z260 :: z261 :: z262 :: z263 :: z264 :: z265 :: z266 :: z267 :: z268 :: z269 :: z270 :: z271 :: z272 :: z273 :: z274 :: z275 :: z276 :: z277 :: z278 :: z279 :: z280 :: z281 :: z282 :: []), []⟩ wD := by
  have hR : sumsTail13 = dropC 1 sumsTail12 := (dropC_add 1 12 _).symm
  refine wp_tail 1 hR ?_
  conv => arg 2; simp only [sumsTail12, bodyC, Try.f13, Option.getD_some, dropC, mkC]
  obtain ⟨i5, hi5, hzi, hsi, hbi⟩ := info_parts infoGp
  have hsz := hBA.size
  have y0 : 0 ≤ x0 % 20 ∧ x0 % 20 ≤ 19 := by omega
  have y1 : 0 ≤ x1 % 20 ∧ x1 % 20 ≤ 19 := by omega
  have hne20 : ¬ x0 < 0 := by omega
  have hne21 : ¬ x1 < 0 := by omega
  have hC := fun A' c' (W : World) (h : gpL.at W 0 A' gs) => crop_any r 0 A' n c' gs (x0 % 20) (x0 % 20 + x1 % 20) W h hn (by unfold maxLen; omega)
  have hcs : cropS 0 ⟨a0, a1⟩ (x0 % 20) (x0 % 20 + x1 % 20) = (⟨a0 * (x0 % 20), a1 * (x0 % 20 + x1 % 20)⟩, 0) := by
    unfold cropS
    rw [if_pos rfl, if_pos (by simp [okH, btw]; omega)]
  rw [HE.out, HS.out, hcs, show rV r = .agg #[.int .i64 r.frost, .int .i64 r.thaw, .int .i64 r.gain, .int .i64 r.full, .int .i64 r.ice, .int .i64 r.most, .int .i64 r.melt, .int .i64 r.rlow, .int .i64 r.rhigh, .int .i64 r.pull] from rfl] at hC
  unfold GivesPost at hC
  simp only at hC
  clear hcs
  have wq : IntKind.i64.wrap (x0 % 20 + x1 % 20) = x0 % 20 + x1 % 20 := by rw [IntKind.wrap_i64]; omega
  have wq0 : IntKind.i64.wrap (x0 % 20) = x0 % 20 := by rw [IntKind.wrap_i64]; omega
  have wq1 : IntKind.i64.wrap (x1 % 20) = x1 % 20 := by rw [IntKind.wrap_i64]; omega
  have tq0 : x0.tmod 20 = x0 % 20 := Int.tmod_eq_emod_of_nonneg bx0.1
  have tq1 : x1.tmod 20 = x1 % 20 := Int.tmod_eq_emod_of_nonneg bx1.1
  go_upto_region 22 with (fail)
  go_cut [8, 20] (fun v8 v20 wx => ∃ b20 : Nat, v8 = .int .i64 0 ∧ v20 = .pointer (some ⟨b20, 0, none⟩) ∧ b20 < wx.heap.size ∧ wx.cell? ⟨b20, 0, none⟩ = some (.int .i64 (a0 * (x0 % 20))) ∧ wx.cell? ⟨b20, 1, none⟩ = some (.int .i64 (a1 * (x0 % 20 + x1 % 20))) ∧ Aside (Below wD.heap.size wD wx))
  case first =>
    have hAll : Aside (∀ W, Below wD.heap.size wD W → (Below wD.heap.size wD W ∧ W.cell? ⟨w.heap.size, 0, none⟩ = some (.int .i64 r.frost) ∧ W.cell? ⟨w.heap.size, 1, none⟩ = some (.int .i64 r.thaw) ∧ W.cell? ⟨w.heap.size, 2, none⟩ = some (.int .i64 r.gain) ∧ W.cell? ⟨w.heap.size, 3, none⟩ = some (.int .i64 r.full) ∧ W.cell? ⟨w.heap.size, 4, none⟩ = some (.int .i64 r.ice) ∧ W.cell? ⟨w.heap.size, 5, none⟩ = some (.int .i64 r.most) ∧ W.cell? ⟨w.heap.size, 6, none⟩ = some (.int .i64 r.melt) ∧ W.cell? ⟨w.heap.size, 7, none⟩ = some (.int .i64 r.rlow) ∧ W.cell? ⟨w.heap.size, 8, none⟩ = some (.int .i64 r.rhigh) ∧ W.cell? ⟨w.heap.size, 9, none⟩ = some (.int .i64 r.pull) ∧ W.cell? ⟨w.heap.size + 1, 0, none⟩ = some (.int .u16 x0) ∧ W.cell? ⟨w.heap.size + 1, 1, none⟩ = some (.int .u16 x1))) := fun W h => ⟨h, (h.cell (p := ⟨w.heap.size, 0, none⟩) (by show w.heap.size < _; omega)).trans q0, (h.cell (p := ⟨w.heap.size, 1, none⟩) (by show w.heap.size < _; omega)).trans q1, (h.cell (p := ⟨w.heap.size, 2, none⟩) (by show w.heap.size < _; omega)).trans q2, (h.cell (p := ⟨w.heap.size, 3, none⟩) (by show w.heap.size < _; omega)).trans q3, (h.cell (p := ⟨w.heap.size, 4, none⟩) (by show w.heap.size < _; omega)).trans q4, (h.cell (p := ⟨w.heap.size, 5, none⟩) (by show w.heap.size < _; omega)).trans q5, (h.cell (p := ⟨w.heap.size, 6, none⟩) (by show w.heap.size < _; omega)).trans q6, (h.cell (p := ⟨w.heap.size, 7, none⟩) (by show w.heap.size < _; omega)).trans q7, (h.cell (p := ⟨w.heap.size, 8, none⟩) (by show w.heap.size < _; omega)).trans q8, (h.cell (p := ⟨w.heap.size, 9, none⟩) (by show w.heap.size < _; omega)).trans q9, (h.cell (p := ⟨w.heap.size + 1, 0, none⟩) (by show w.heap.size + 1 < _; omega)).trans s0, (h.cell (p := ⟨w.heap.size + 1, 1, none⟩) (by show w.heap.size + 1 < _; omega)).trans s1⟩
    refine wp_region_held_drew (S := fun W => Below wD.heap.size wD W ∧ W.cell? ⟨w.heap.size, 0, none⟩ = some (.int .i64 r.frost) ∧ W.cell? ⟨w.heap.size, 1, none⟩ = some (.int .i64 r.thaw) ∧ W.cell? ⟨w.heap.size, 2, none⟩ = some (.int .i64 r.gain) ∧ W.cell? ⟨w.heap.size, 3, none⟩ = some (.int .i64 r.full) ∧ W.cell? ⟨w.heap.size, 4, none⟩ = some (.int .i64 r.ice) ∧ W.cell? ⟨w.heap.size, 5, none⟩ = some (.int .i64 r.most) ∧ W.cell? ⟨w.heap.size, 6, none⟩ = some (.int .i64 r.melt) ∧ W.cell? ⟨w.heap.size, 7, none⟩ = some (.int .i64 r.rlow) ∧ W.cell? ⟨w.heap.size, 8, none⟩ = some (.int .i64 r.rhigh) ∧ W.cell? ⟨w.heap.size, 9, none⟩ = some (.int .i64 r.pull) ∧ W.cell? ⟨w.heap.size + 1, 0, none⟩ = some (.int .u16 x0) ∧ W.cell? ⟨w.heap.size + 1, 1, none⟩ = some (.int .u16 x1)) (by kernel_rfl) (hAll.out _ ((Below.refl _ _).drew)) (fun hS0 => ?_)
    refine wpAnyH_take (i := 0) (v := ?_) rfl (by kernel_rfl) (by kernel_rfl) (by kernel_rfl) (fun _ _ _ h => h) (Or.inl ⟨by rfl, ?_⟩) hS0 ?_
    rotate_left
    · (intro W hSw; (try dsimp only at hSw); go_split_ands; go_simp; (try with_reducible rfl))
    (try go_simp)
    refine wpAnyH_take (i := 2) (v := ?_) rfl (by kernel_rfl) (by kernel_rfl) (by kernel_rfl) (fun _ _ _ h => h) (Or.inl ⟨by rfl, ?_⟩) hS0 ?_
    rotate_left
    · (intro W hSw; (try dsimp only at hSw); go_split_ands; go_simp; (try with_reducible rfl))
    (try go_simp)
    refine wpAnyH_take (i := 4) (v := ?_) rfl (by kernel_rfl) (by kernel_rfl) (by kernel_rfl) (fun _ _ _ h => h) (Or.inl ⟨by rfl, ?_⟩) hS0 ?_
    rotate_left
    · (intro W hSw; (try dsimp only at hSw); go_split_ands; go_simp; (try with_reducible rfl))
    (try go_simp)
    refine wpAnyH_take (i := 5) (v := ?_) rfl (by kernel_rfl) (by kernel_rfl) (by kernel_rfl) (fun _ _ _ h => h) (Or.inl ⟨by rfl, ?_⟩) hS0 ?_
    rotate_left
    · (intro W hSw; (try dsimp only at hSw); go_split_ands; go_simp; (try with_reducible rfl))
    (try go_simp)
    refine wpAnyH_take (i := 6) (v := ?_) rfl (by kernel_rfl) (by kernel_rfl) (by kernel_rfl) (fun _ _ _ h => h) (Or.inl ⟨by rfl, ?_⟩) hS0 ?_
    rotate_left
    · (intro W hSw; (try dsimp only at hSw); go_split_ands; go_simp; (try with_reducible rfl))
    (try go_simp)
    refine wpAnyH_take (i := 7) (v := ?_) rfl (by kernel_rfl) (by kernel_rfl) (by kernel_rfl) (fun _ _ _ h => h) (Or.inl ⟨by rfl, ?_⟩) hS0 ?_
    rotate_left
    · (intro W hSw; (try dsimp only at hSw); go_split_ands; go_simp; (try with_reducible rfl))
    (try go_simp)
    refine wpAnyH_take (i := 8) (v := ?_) rfl (by kernel_rfl) (by kernel_rfl) (by kernel_rfl) (fun _ _ _ h => h) (Or.inl ⟨by rfl, ?_⟩) hS0 ?_
    rotate_left
    · (intro W hSw; (try dsimp only at hSw); go_split_ands; go_simp; (try with_reducible rfl))
    (try go_simp)
    refine wpAnyH_take (i := 9) (v := ?_) rfl (by kernel_rfl) (by kernel_rfl) (by kernel_rfl) (fun _ _ _ h => h) (Or.inl ⟨by rfl, ?_⟩) hS0 ?_
    rotate_left
    · (intro W hSw; (try dsimp only at hSw); go_split_ands; go_simp; (try with_reducible rfl))
    (try go_simp)
    refine wpAnyH_take (i := 10) (v := ?_) rfl (by kernel_rfl) (by kernel_rfl) (by kernel_rfl) (fun _ _ _ h => h) (Or.inl ⟨by rfl, ?_⟩) hS0 ?_
    rotate_left
    · (intro W hSw; (try dsimp only at hSw); go_split_ands; go_simp; (try with_reducible rfl))
    (try go_simp)
    refine wpAnyH_take (i := 11) (v := ?_) rfl (by kernel_rfl) (by kernel_rfl) (by kernel_rfl) (fun _ _ _ h => h) (Or.inl ⟨by rfl, ?_⟩) hS0 ?_
    rotate_left
    · (intro W hSw; (try dsimp only at hSw); go_split_ands; go_simp; (try with_reducible rfl))
    (try go_simp)
    refine wpAnyH_take (i := 12) (v := ?_) rfl (by kernel_rfl) (by kernel_rfl) (by kernel_rfl) (fun _ _ _ h => h) (Or.inl ⟨by rfl, ?_⟩) hS0 ?_
    rotate_left
    · (intro W hSw; (try dsimp only at hSw); go_split_ands; go_simp; (try with_reducible rfl))
    (try go_simp)
    refine wpAnyH_take (i := 13) (v := ?_) rfl (by kernel_rfl) (by kernel_rfl) (by kernel_rfl) (fun _ _ _ h => h) (Or.inl ⟨by rfl, ?_⟩) hS0 ?_
    rotate_left
    · (intro W hSw; (try dsimp only at hSw); go_split_ands; go_simp; (try with_reducible rfl))
    (try go_simp)
    refine wpAnyH_take (i := 14) (v := ?_) rfl (by kernel_rfl) (by kernel_rfl) (by kernel_rfl) (fun _ _ _ h => h) (Or.inl ⟨by rfl, ?_⟩) hS0 ?_
    rotate_left
    · (intro W hSw; (try dsimp only at hSw); go_split_ands; go_simp; (try with_reducible rfl))
    (try go_simp)
    refine wpAnyH_take (i := 15) (v := ?_) rfl (by kernel_rfl) (by kernel_rfl) (by kernel_rfl) (fun _ _ _ h => h) (Or.inl ⟨by rfl, ?_⟩) hS0 ?_
    rotate_left
    · (intro W hSw; (try dsimp only at hSw); go_split_ands; go_simp; (try with_reducible rfl))
    (try go_simp)
    refine wpAnyH_take (i := 16) (v := ?_) rfl (by kernel_rfl) (by kernel_rfl) (by kernel_rfl) (fun _ _ _ h => h) (Or.inl ⟨by rfl, ?_⟩) hS0 ?_
    rotate_left
    · (intro W hSw; (try dsimp only at hSw); go_split_ands; go_simp; (try with_reducible rfl))
    (try go_simp)
    refine wpAnyH_take (i := 17) (v := ?_) rfl (by kernel_rfl) (by kernel_rfl) (by kernel_rfl) (fun _ _ _ h => h) (Or.inl ⟨by rfl, ?_⟩) hS0 ?_
    rotate_left
    · (intro W hSw; (try dsimp only at hSw); go_split_ands; go_simp; (try with_reducible rfl))
    (try go_simp)
    refine wpAnyH_ready (rs := [1, 22]) (by kernel_rfl) (by simp) ?_
    refine (AllReadyH.cons rfl (fun K hK => ?_) (AllReadyH.cons rfl (fun K hK => ?_) AllReadyH.nil))
    · skip
      go_simp
      refine hK.out _ _ (hAll.out _ (by repeat (first | (with_reducible assumption) | exact Below.refl _ _ | (with_reducible refine Below.alloc ?_ (by first | omega | (simp <;> omega)) _) | (with_reducible refine Below.setCell ?_ (by first | omega | (simp <;> omega)) _) | (with_reducible refine Below.drew ?_)))) (fun hS1 => ?_)
      clear hK K
      (try go_simp)
      refine wpAnyH_ready (rs := [3, 22]) (by kernel_rfl) (by simp) ?_
      refine (AllReadyH.cons rfl (fun K hK => ?_) (AllReadyH.cons rfl (fun K hK => ?_) AllReadyH.nil))
      · skip
        refine step_append_copy gpL rfl _ _ _ (by rfl) 102 i5 _ 24 Try.underlying93 hi5 hzi hsi hbi rfl _ (by rfl) (by first | exact ownsRow_emptyK _ _ _ | exact (ownsRow_emptyK _ _ _).drew | exact (ownsRow_emptyK _ _ _).alloc _ | exact ((ownsRow_emptyK _ _ _).alloc _).drew | (have hq := (ownsRow_emptyK (World.alloc wD (.cells #[.int .i64 0, .int .i64 0] 23)) 102 3).drew; simp at hq; exact hq)) A n cc lo gs (by rfl) (Lay.at_below HX.out (btS hBA (Nat.le_refl _) (show Below wD.heap.size wD _ from (by repeat (first | (with_reducible assumption) | exact Below.refl _ _ | (with_reducible refine Below.alloc ?_ (by first | omega | (simp <;> omega)) _) | (with_reducible refine Below.setCell ?_ (by first | omega | (simp <;> omega)) _) | (with_reducible refine Below.drew ?_))))) (Nat.le_refl _)) hn.out h0 (by unfold maxLen; omega) (by omega) (by first | (simp; done) | (simp; omega)) ?_
        intro Aw6 cw6 w6 hatw6 hgrw6 hnw6 hmw6
        have hTw6 : Below wD.heap.size wD w6 := Below.grown (by repeat (first | (with_reducible assumption) | exact Below.refl _ _ | (with_reducible refine Below.alloc ?_ (by first | omega | (simp <;> omega)) _) | (with_reducible refine Below.setCell ?_ (by first | omega | (simp <;> omega)) _) | (with_reducible refine Below.drew ?_))) hgrw6 (by first | (simp; done) | (simp; omega)) (fun k e => by cases e; first | (simp; done) | (simp; omega))
        have hsw6 := hTw6.size
        have hzw6 := hgrw6.size
        (try simp only [World.size_alloc, World.size_drew, World.size_setCell] at hzw6)
        have l_ownw6 : wD.heap.size < w6.heap.size := by first | omega | (simp at hzw6; omega)
        refine hK.out _ _ (hAll.out _ hTw6) (fun hS2 => ?_)
        clear hK K
        (try go_simp)
        refine wpAnyH_ready (rs := [18, 22]) (by kernel_rfl) (by simp) ?_
        refine (AllReadyH.cons rfl (fun K hK => ?_) (AllReadyH.cons rfl (fun K hK => ?_) AllReadyH.nil))
        · skip
          go_simp
          go_wp2_with (go_at_call 48; refine Calls.mono (hC _ _ _ (Lay.at_mono (Lay.at_below hatw6 (show Below w6.heap.size w6 _ from (by repeat (first | (with_reducible assumption) | exact Below.refl _ _ | (with_reducible refine Below.alloc ?_ (by first | omega | (simp <;> omega)) _) | (with_reducible refine Below.setCell ?_ (by first | omega | (simp <;> omega)) _) | (with_reducible refine Below.drew ?_)))) (Nat.le_refl _)) (Nat.zero_le _))) ?_; rintro e w9 ⟨rfl, hb9⟩)
          have hTw9 : Below wD.heap.size wD w9 := btS (show Below wD.heap.size wD _ from (by repeat (first | (with_reducible assumption) | exact Below.refl _ _ | (with_reducible refine Below.alloc ?_ (by first | omega | (simp <;> omega)) _) | (with_reducible refine Below.setCell ?_ (by first | omega | (simp <;> omega)) _) | (with_reducible refine Below.drew ?_)))) (Nat.le_refl _) hb9
          have hsw9 := hTw9.size
          have hzw9 := hb9.size
          (try simp only [World.size_alloc, World.size_drew, World.size_setCell] at hzw9)
          have l_ownw9 : wD.heap.size < w9.heap.size := by first | omega | (simp at hzw9; omega)
          refine hK.out _ _ (hAll.out _ hTw9) (fun hS3 => ?_)
          clear hK K
          (try go_simp)
          refine wpAnyH_take (i := 19) (v := ?_) rfl (by kernel_rfl) (by kernel_rfl) (by kernel_rfl) (fun _ _ _ h => h) (Or.inl ⟨by rfl, ?_⟩) hS3 ?_
          rotate_left
          · (intro W hSw; (try dsimp only at hSw); go_split_ands; go_simp; (try with_reducible rfl))
          (try go_simp)
          refine wpAnyH_take (i := 20) (v := ?_) rfl (by kernel_rfl) (by kernel_rfl) (by kernel_rfl) (fun _ _ _ h => h) (Or.inl ⟨by rfl, ?_⟩) hS3 ?_
          rotate_left
          · (intro W hSw; (try dsimp only at hSw); go_split_ands; go_simp; (try with_reducible rfl))
          (try go_simp)
          refine wpAnyH_take (i := 21) (v := ?_) rfl (by kernel_rfl) (by kernel_rfl) (by kernel_rfl) (fun _ _ _ h => h) (Or.inl ⟨by rfl, ?_⟩) hS3 ?_
          rotate_left
          · (intro W hSw; (try dsimp only at hSw); go_split_ands; go_simp; (try with_reducible rfl))
          (try go_simp)
          refine wpAnyH_ready (rs := [22]) (by kernel_rfl) (by simp) ?_
          refine (AllReadyH.cons rfl (fun K hK => ?_) AllReadyH.nil)
          go_simp
          refine hK.out _ _ (hAll.out _ (by repeat (first | (with_reducible assumption) | exact Below.refl _ _ | (with_reducible refine Below.alloc ?_ (by first | omega | (simp <;> omega)) _) | (with_reducible refine Below.setCell ?_ (by first | omega | (simp <;> omega)) _) | (with_reducible refine Below.drew ?_)))) (fun hS4 => ?_)
          clear hK K
          (try go_simp)
          refine wpAnyH_ready (rs := [23]) (by kernel_rfl) (by simp) ?_
          refine (AllReadyH.cons rfl (fun K hK => ?_) AllReadyH.nil)
          go_simp
          refine hK.out _ _ (hAll.out _ (by repeat (first | (with_reducible assumption) | exact Below.refl _ _ | (with_reducible refine Below.alloc ?_ (by first | omega | (simp <;> omega)) _) | (with_reducible refine Below.setCell ?_ (by first | omega | (simp <;> omega)) _) | (with_reducible refine Below.drew ?_)))) (fun hS5 => ?_)
          clear hK K
          (try go_simp)
          refine wpAnyH_take (i := 24) (v := ?_) rfl (by kernel_rfl) (by kernel_rfl) (by kernel_rfl) (fun _ _ _ h => h) (Or.inl ⟨by rfl, ?_⟩) hS5 ?_
          rotate_left
          · (intro W hSw; (try dsimp only at hSw); go_split_ands; go_simp; (try with_reducible rfl))
          (try go_simp)
          refine wpAnyH_done (by kernel_rfl) ?_ _
          (try go_simp)
          go_wp2_with fail
          go_meet
          exact ⟨_, rfl, rfl, by first | omega | (simp; done) | (simp; omega), by simp [go_sem], by simp [go_sem], (show Below _ _ _ from (by repeat (first | (with_reducible assumption) | exact Below.refl _ _ | (with_reducible refine Below.alloc ?_ (by first | omega | (simp <;> omega)) _) | (with_reducible refine Below.setCell ?_ (by first | omega | (simp <;> omega)) _) | (with_reducible refine Below.drew ?_))))⟩
        · skip
          go_simp
          refine hK.out _ _ (hAll.out _ (by repeat (first | (with_reducible assumption) | exact Below.refl _ _ | (with_reducible refine Below.alloc ?_ (by first | omega | (simp <;> omega)) _) | (with_reducible refine Below.setCell ?_ (by first | omega | (simp <;> omega)) _) | (with_reducible refine Below.drew ?_)))) (fun hS6 => ?_)
          clear hK K
          (try go_simp)
          refine wpAnyH_ready (rs := [18]) (by kernel_rfl) (by simp) ?_
          refine (AllReadyH.cons rfl (fun K hK => ?_) AllReadyH.nil)
          go_simp
          go_wp2_with (go_at_call 48; refine Calls.mono (hC _ _ _ (Lay.at_mono (Lay.at_below hatw6 (show Below w6.heap.size w6 _ from (by repeat (first | (with_reducible assumption) | exact Below.refl _ _ | (with_reducible refine Below.alloc ?_ (by first | omega | (simp <;> omega)) _) | (with_reducible refine Below.setCell ?_ (by first | omega | (simp <;> omega)) _) | (with_reducible refine Below.drew ?_)))) (Nat.le_refl _)) (Nat.zero_le _))) ?_; rintro e w9 ⟨rfl, hb9⟩)
          have hTw9 : Below wD.heap.size wD w9 := btS (show Below wD.heap.size wD _ from (by repeat (first | (with_reducible assumption) | exact Below.refl _ _ | (with_reducible refine Below.alloc ?_ (by first | omega | (simp <;> omega)) _) | (with_reducible refine Below.setCell ?_ (by first | omega | (simp <;> omega)) _) | (with_reducible refine Below.drew ?_)))) (Nat.le_refl _) hb9
          have hsw9 := hTw9.size
          have hzw9 := hb9.size
          (try simp only [World.size_alloc, World.size_drew, World.size_setCell] at hzw9)
          have l_ownw9 : wD.heap.size < w9.heap.size := by first | omega | (simp at hzw9; omega)
          have cb20w9_0 : w9.cell? ⟨w6.heap.size, 0, none⟩ = some (.int .i64 0) := (hb9.cell (p := ⟨w6.heap.size, 0, none⟩) (by show w6.heap.size < _; first | omega | (simp; done) | (simp; omega))).trans (by first | exact cnone_0 | (simp [go_sem]))
          have fb20w9_0 : w9.frozen? ⟨w6.heap.size, 0, none⟩ = false := (hb9.frozen (p := ⟨w6.heap.size, 0, none⟩) (by show w6.heap.size < _; first | omega | (simp; done) | (simp; omega))).trans (by first | exact fnone_0 | (simp [go_sem]))
          have cb20w9_1 : w9.cell? ⟨w6.heap.size, 1, none⟩ = some (.int .i64 0) := (hb9.cell (p := ⟨w6.heap.size, 1, none⟩) (by show w6.heap.size < _; first | omega | (simp; done) | (simp; omega))).trans (by first | exact cnone_1 | (simp [go_sem]))
          have fb20w9_1 : w9.frozen? ⟨w6.heap.size, 1, none⟩ = false := (hb9.frozen (p := ⟨w6.heap.size, 1, none⟩) (by show w6.heap.size < _; first | omega | (simp; done) | (simp; omega))).trans (by first | exact fnone_1 | (simp [go_sem]))
          have lb20w9 : w6.heap.size < w9.heap.size := by first | omega | (simp at hzw9; omega)
          refine hK.out _ _ (hAll.out _ hTw9) (fun hS7 => ?_)
          clear hK K
          (try go_simp)
          refine wpAnyH_take (i := 19) (v := ?_) rfl (by kernel_rfl) (by kernel_rfl) (by kernel_rfl) (fun _ _ _ h => h) (Or.inl ⟨by rfl, ?_⟩) hS7 ?_
          rotate_left
          · (intro W hSw; (try dsimp only at hSw); go_split_ands; go_simp; (try with_reducible rfl))
          (try go_simp)
          refine wpAnyH_take (i := 20) (v := ?_) rfl (by kernel_rfl) (by kernel_rfl) (by kernel_rfl) (fun _ _ _ h => h) (Or.inl ⟨by rfl, ?_⟩) hS7 ?_
          rotate_left
          · (intro W hSw; (try dsimp only at hSw); go_split_ands; go_simp; (try with_reducible rfl))
          (try go_simp)
          refine wpAnyH_take (i := 21) (v := ?_) rfl (by kernel_rfl) (by kernel_rfl) (by kernel_rfl) (fun _ _ _ h => h) (Or.inl ⟨by rfl, ?_⟩) hS7 ?_
          rotate_left
          · (intro W hSw; (try dsimp only at hSw); go_split_ands; go_simp; (try with_reducible rfl))
          (try go_simp)
          refine wpAnyH_ready (rs := [23]) (by kernel_rfl) (by simp) ?_
          refine (AllReadyH.cons rfl (fun K hK => ?_) AllReadyH.nil)
          go_simp
          refine hK.out _ _ (hAll.out _ (by repeat (first | (with_reducible assumption) | exact Below.refl _ _ | (with_reducible refine Below.alloc ?_ (by first | omega | (simp <;> omega)) _) | (with_reducible refine Below.setCell ?_ (by first | omega | (simp <;> omega)) _) | (with_reducible refine Below.drew ?_)))) (fun hS8 => ?_)
          clear hK K
          (try go_simp)
          refine wpAnyH_take (i := 24) (v := ?_) rfl (by kernel_rfl) (by kernel_rfl) (by kernel_rfl) (fun _ _ _ h => h) (Or.inl ⟨by rfl, ?_⟩) hS8 ?_
          rotate_left
          · (intro W hSw; (try dsimp only at hSw); go_split_ands; go_simp; (try with_reducible rfl))
          (try go_simp)
          refine wpAnyH_done (by kernel_rfl) ?_ _
          (try go_simp)
          go_wp2_with fail
          go_meet
          exact ⟨_, rfl, rfl, by first | omega | (simp; done) | (simp; omega), by simp [go_sem, cb20w9_0, cb20w9_1, lb20w9], by simp [go_sem, cb20w9_0, cb20w9_1, lb20w9], (show Below _ _ _ from (by repeat (first | (with_reducible assumption) | exact Below.refl _ _ | (with_reducible refine Below.alloc ?_ (by first | omega | (simp <;> omega)) _) | (with_reducible refine Below.setCell ?_ (by first | omega | (simp <;> omega)) _) | (with_reducible refine Below.drew ?_))))⟩
      · skip
        go_simp
        refine hK.out _ _ (hAll.out _ (by repeat (first | (with_reducible assumption) | exact Below.refl _ _ | (with_reducible refine Below.alloc ?_ (by first | omega | (simp <;> omega)) _) | (with_reducible refine Below.setCell ?_ (by first | omega | (simp <;> omega)) _) | (with_reducible refine Below.drew ?_)))) (fun hS9 => ?_)
        clear hK K
        (try go_simp)
        refine wpAnyH_ready (rs := [3]) (by kernel_rfl) (by simp) ?_
        refine (AllReadyH.cons rfl (fun K hK => ?_) AllReadyH.nil)
        refine step_append_copy gpL rfl _ _ _ (by rfl) 102 i5 _ 24 Try.underlying93 hi5 hzi hsi hbi rfl _ (by rfl) (by first | exact ownsRow_emptyK _ _ _ | exact (ownsRow_emptyK _ _ _).drew | exact (ownsRow_emptyK _ _ _).alloc _ | exact ((ownsRow_emptyK _ _ _).alloc _).drew | (have hq := (ownsRow_emptyK (World.alloc wD (.cells #[.int .i64 0, .int .i64 0] 23)) 102 3).drew; simp at hq; exact hq)) A n cc lo gs (by rfl) (Lay.at_below HX.out (btS hBA (Nat.le_refl _) (show Below wD.heap.size wD _ from (by repeat (first | (with_reducible assumption) | exact Below.refl _ _ | (with_reducible refine Below.alloc ?_ (by first | omega | (simp <;> omega)) _) | (with_reducible refine Below.setCell ?_ (by first | omega | (simp <;> omega)) _) | (with_reducible refine Below.drew ?_))))) (Nat.le_refl _)) hn.out h0 (by unfold maxLen; omega) (by omega) (by first | (simp; done) | (simp; omega)) ?_
        intro Aw6 cw6 w6 hatw6 hgrw6 hnw6 hmw6
        have hTw6 : Below wD.heap.size wD w6 := Below.grown (by repeat (first | (with_reducible assumption) | exact Below.refl _ _ | (with_reducible refine Below.alloc ?_ (by first | omega | (simp <;> omega)) _) | (with_reducible refine Below.setCell ?_ (by first | omega | (simp <;> omega)) _) | (with_reducible refine Below.drew ?_))) hgrw6 (by first | (simp; done) | (simp; omega)) (fun k e => by cases e; first | (simp; done) | (simp; omega))
        have hsw6 := hTw6.size
        have hzw6 := hgrw6.size
        (try simp only [World.size_alloc, World.size_drew, World.size_setCell] at hzw6)
        have l_ownw6 : wD.heap.size < w6.heap.size := by first | omega | (simp at hzw6; omega)
        have cb20w6_0 : w6.cell? ⟨wD.heap.size + 1, 0, none⟩ = some (.int .i64 0) := (hgrw6.cell_far ⟨wD.heap.size + 1, 0, none⟩ (by first | (simp; done) | (simp; omega)) (by simp)).trans (by first | exact cnone_0 | (simp [go_sem]))
        have fb20w6_0 : w6.frozen? ⟨wD.heap.size + 1, 0, none⟩ = false := (hgrw6.frozen_far ⟨wD.heap.size + 1, 0, none⟩ (by first | (simp; done) | (simp; omega)) (by simp)).trans (by first | exact fnone_0 | (simp [go_sem]))
        have cb20w6_1 : w6.cell? ⟨wD.heap.size + 1, 1, none⟩ = some (.int .i64 0) := (hgrw6.cell_far ⟨wD.heap.size + 1, 1, none⟩ (by first | (simp; done) | (simp; omega)) (by simp)).trans (by first | exact cnone_1 | (simp [go_sem]))
        have fb20w6_1 : w6.frozen? ⟨wD.heap.size + 1, 1, none⟩ = false := (hgrw6.frozen_far ⟨wD.heap.size + 1, 1, none⟩ (by first | (simp; done) | (simp; omega)) (by simp)).trans (by first | exact fnone_1 | (simp [go_sem]))
        have lb20w6 : wD.heap.size + 1 < w6.heap.size := by first | omega | (simp at hzw6; omega)
        refine hK.out _ _ (hAll.out _ hTw6) (fun hS10 => ?_)
        clear hK K
        (try go_simp)
        refine wpAnyH_ready (rs := [18]) (by kernel_rfl) (by simp) ?_
        refine (AllReadyH.cons rfl (fun K hK => ?_) AllReadyH.nil)
        go_simp
        go_wp2_with (go_at_call 48; refine Calls.mono (hC _ _ _ (Lay.at_mono (Lay.at_below hatw6 (show Below w6.heap.size w6 _ from (by repeat (first | (with_reducible assumption) | exact Below.refl _ _ | (with_reducible refine Below.alloc ?_ (by first | omega | (simp <;> omega)) _) | (with_reducible refine Below.setCell ?_ (by first | omega | (simp <;> omega)) _) | (with_reducible refine Below.drew ?_)))) (Nat.le_refl _)) (Nat.zero_le _))) ?_; rintro e w9 ⟨rfl, hb9⟩)
        have hTw9 : Below wD.heap.size wD w9 := btS (show Below wD.heap.size wD _ from (by repeat (first | (with_reducible assumption) | exact Below.refl _ _ | (with_reducible refine Below.alloc ?_ (by first | omega | (simp <;> omega)) _) | (with_reducible refine Below.setCell ?_ (by first | omega | (simp <;> omega)) _) | (with_reducible refine Below.drew ?_)))) (Nat.le_refl _) hb9
        have hsw9 := hTw9.size
        have hzw9 := hb9.size
        (try simp only [World.size_alloc, World.size_drew, World.size_setCell] at hzw9)
        have l_ownw9 : wD.heap.size < w9.heap.size := by first | omega | (simp at hzw9; omega)
        have cb20w9_0 : w9.cell? ⟨wD.heap.size + 1, 0, none⟩ = some (.int .i64 0) := (hb9.cell (p := ⟨wD.heap.size + 1, 0, none⟩) (by show wD.heap.size + 1 < _; first | omega | (simp; done) | (simp; omega))).trans (by first | exact cb20w6_0 | (simp [go_sem]))
        have fb20w9_0 : w9.frozen? ⟨wD.heap.size + 1, 0, none⟩ = false := (hb9.frozen (p := ⟨wD.heap.size + 1, 0, none⟩) (by show wD.heap.size + 1 < _; first | omega | (simp; done) | (simp; omega))).trans (by first | exact fb20w6_0 | (simp [go_sem]))
        have cb20w9_1 : w9.cell? ⟨wD.heap.size + 1, 1, none⟩ = some (.int .i64 0) := (hb9.cell (p := ⟨wD.heap.size + 1, 1, none⟩) (by show wD.heap.size + 1 < _; first | omega | (simp; done) | (simp; omega))).trans (by first | exact cb20w6_1 | (simp [go_sem]))
        have fb20w9_1 : w9.frozen? ⟨wD.heap.size + 1, 1, none⟩ = false := (hb9.frozen (p := ⟨wD.heap.size + 1, 1, none⟩) (by show wD.heap.size + 1 < _; first | omega | (simp; done) | (simp; omega))).trans (by first | exact fb20w6_1 | (simp [go_sem]))
        have lb20w9 : wD.heap.size + 1 < w9.heap.size := by first | omega | (simp at hzw9; omega)
        refine hK.out _ _ (hAll.out _ hTw9) (fun hS11 => ?_)
        clear hK K
        (try go_simp)
        refine wpAnyH_take (i := 19) (v := ?_) rfl (by kernel_rfl) (by kernel_rfl) (by kernel_rfl) (fun _ _ _ h => h) (Or.inl ⟨by rfl, ?_⟩) hS11 ?_
        rotate_left
        · (intro W hSw; (try dsimp only at hSw); go_split_ands; go_simp; (try with_reducible rfl))
        (try go_simp)
        refine wpAnyH_take (i := 20) (v := ?_) rfl (by kernel_rfl) (by kernel_rfl) (by kernel_rfl) (fun _ _ _ h => h) (Or.inl ⟨by rfl, ?_⟩) hS11 ?_
        rotate_left
        · (intro W hSw; (try dsimp only at hSw); go_split_ands; go_simp; (try with_reducible rfl))
        (try go_simp)
        refine wpAnyH_take (i := 21) (v := ?_) rfl (by kernel_rfl) (by kernel_rfl) (by kernel_rfl) (fun _ _ _ h => h) (Or.inl ⟨by rfl, ?_⟩) hS11 ?_
        rotate_left
        · (intro W hSw; (try dsimp only at hSw); go_split_ands; go_simp; (try with_reducible rfl))
        (try go_simp)
        refine wpAnyH_ready (rs := [23]) (by kernel_rfl) (by simp) ?_
        refine (AllReadyH.cons rfl (fun K hK => ?_) AllReadyH.nil)
        go_simp
        refine hK.out _ _ (hAll.out _ (by repeat (first | (with_reducible assumption) | exact Below.refl _ _ | (with_reducible refine Below.alloc ?_ (by first | omega | (simp <;> omega)) _) | (with_reducible refine Below.setCell ?_ (by first | omega | (simp <;> omega)) _) | (with_reducible refine Below.drew ?_)))) (fun hS12 => ?_)
        clear hK K
        (try go_simp)
        refine wpAnyH_take (i := 24) (v := ?_) rfl (by kernel_rfl) (by kernel_rfl) (by kernel_rfl) (fun _ _ _ h => h) (Or.inl ⟨by rfl, ?_⟩) hS12 ?_
        rotate_left
        · (intro W hSw; (try dsimp only at hSw); go_split_ands; go_simp; (try with_reducible rfl))
        (try go_simp)
        refine wpAnyH_done (by kernel_rfl) ?_ _
        (try go_simp)
        go_wp2_with fail
        go_meet
        exact ⟨_, rfl, rfl, by first | omega | (simp; done) | (simp; omega), by simp [go_sem, cb20w9_0, cb20w9_1, lb20w9], by simp [go_sem, cb20w9_0, cb20w9_1, lb20w9], (show Below _ _ _ from (by repeat (first | (with_reducible assumption) | exact Below.refl _ _ | (with_reducible refine Below.alloc ?_ (by first | omega | (simp <;> omega)) _) | (with_reducible refine Below.setCell ?_ (by first | omega | (simp <;> omega)) _) | (with_reducible refine Below.drew ?_))))⟩
    · skip
      go_simp
      refine hK.out _ _ (hAll.out _ (by repeat (first | (with_reducible assumption) | exact Below.refl _ _ | (with_reducible refine Below.alloc ?_ (by first | omega | (simp <;> omega)) _) | (with_reducible refine Below.setCell ?_ (by first | omega | (simp <;> omega)) _) | (with_reducible refine Below.drew ?_)))) (fun hS13 => ?_)
      clear hK K
      (try go_simp)
      refine wpAnyH_ready (rs := [1]) (by kernel_rfl) (by simp) ?_
      refine (AllReadyH.cons rfl (fun K hK => ?_) AllReadyH.nil)
      go_simp
      refine hK.out _ _ (hAll.out _ (by repeat (first | (with_reducible assumption) | exact Below.refl _ _ | (with_reducible refine Below.alloc ?_ (by first | omega | (simp <;> omega)) _) | (with_reducible refine Below.setCell ?_ (by first | omega | (simp <;> omega)) _) | (with_reducible refine Below.drew ?_)))) (fun hS14 => ?_)
      clear hK K
      (try go_simp)
      refine wpAnyH_ready (rs := [3]) (by kernel_rfl) (by simp) ?_
      refine (AllReadyH.cons rfl (fun K hK => ?_) AllReadyH.nil)
      refine step_append_copy gpL rfl _ _ _ (by rfl) 102 i5 _ 24 Try.underlying93 hi5 hzi hsi hbi rfl _ (by rfl) (by first | exact ownsRow_emptyK _ _ _ | exact (ownsRow_emptyK _ _ _).drew | exact (ownsRow_emptyK _ _ _).alloc _ | exact ((ownsRow_emptyK _ _ _).alloc _).drew | (have hq := (ownsRow_emptyK (World.alloc wD (.cells #[.int .i64 0, .int .i64 0] 23)) 102 3).drew; simp at hq; exact hq)) A n cc lo gs (by rfl) (Lay.at_below HX.out (btS hBA (Nat.le_refl _) (show Below wD.heap.size wD _ from (by repeat (first | (with_reducible assumption) | exact Below.refl _ _ | (with_reducible refine Below.alloc ?_ (by first | omega | (simp <;> omega)) _) | (with_reducible refine Below.setCell ?_ (by first | omega | (simp <;> omega)) _) | (with_reducible refine Below.drew ?_))))) (Nat.le_refl _)) hn.out h0 (by unfold maxLen; omega) (by omega) (by first | (simp; done) | (simp; omega)) ?_
      intro Aw6 cw6 w6 hatw6 hgrw6 hnw6 hmw6
      have hTw6 : Below wD.heap.size wD w6 := Below.grown (by repeat (first | (with_reducible assumption) | exact Below.refl _ _ | (with_reducible refine Below.alloc ?_ (by first | omega | (simp <;> omega)) _) | (with_reducible refine Below.setCell ?_ (by first | omega | (simp <;> omega)) _) | (with_reducible refine Below.drew ?_))) hgrw6 (by first | (simp; done) | (simp; omega)) (fun k e => by cases e; first | (simp; done) | (simp; omega))
      have hsw6 := hTw6.size
      have hzw6 := hgrw6.size
      (try simp only [World.size_alloc, World.size_drew, World.size_setCell] at hzw6)
      have cb20w6_0 : w6.cell? ⟨wD.heap.size, 0, none⟩ = some (.int .i64 0) := (hgrw6.cell_far ⟨wD.heap.size, 0, none⟩ (by first | (simp; done) | (simp; omega)) (by simp)).trans (by first | exact cnone_0 | (simp [go_sem]))
      have fb20w6_0 : w6.frozen? ⟨wD.heap.size, 0, none⟩ = false := (hgrw6.frozen_far ⟨wD.heap.size, 0, none⟩ (by first | (simp; done) | (simp; omega)) (by simp)).trans (by first | exact fnone_0 | (simp [go_sem]))
      have cb20w6_1 : w6.cell? ⟨wD.heap.size, 1, none⟩ = some (.int .i64 0) := (hgrw6.cell_far ⟨wD.heap.size, 1, none⟩ (by first | (simp; done) | (simp; omega)) (by simp)).trans (by first | exact cnone_1 | (simp [go_sem]))
      have fb20w6_1 : w6.frozen? ⟨wD.heap.size, 1, none⟩ = false := (hgrw6.frozen_far ⟨wD.heap.size, 1, none⟩ (by first | (simp; done) | (simp; omega)) (by simp)).trans (by first | exact fnone_1 | (simp [go_sem]))
      have lb20w6 : wD.heap.size < w6.heap.size := by first | omega | (simp at hzw6; omega)
      have l_ownw6 : wD.heap.size + 1 < w6.heap.size := by first | omega | (simp at hzw6; omega)
      refine hK.out _ _ (hAll.out _ hTw6) (fun hS15 => ?_)
      clear hK K
      (try go_simp)
      refine wpAnyH_ready (rs := [18]) (by kernel_rfl) (by simp) ?_
      refine (AllReadyH.cons rfl (fun K hK => ?_) AllReadyH.nil)
      go_simp
      go_wp2_with (go_at_call 48; refine Calls.mono (hC _ _ _ (Lay.at_mono (Lay.at_below hatw6 (show Below w6.heap.size w6 _ from (by repeat (first | (with_reducible assumption) | exact Below.refl _ _ | (with_reducible refine Below.alloc ?_ (by first | omega | (simp <;> omega)) _) | (with_reducible refine Below.setCell ?_ (by first | omega | (simp <;> omega)) _) | (with_reducible refine Below.drew ?_)))) (Nat.le_refl _)) (Nat.zero_le _))) ?_; rintro e w9 ⟨rfl, hb9⟩)
      have hTw9 : Below wD.heap.size wD w9 := btS (show Below wD.heap.size wD _ from (by repeat (first | (with_reducible assumption) | exact Below.refl _ _ | (with_reducible refine Below.alloc ?_ (by first | omega | (simp <;> omega)) _) | (with_reducible refine Below.setCell ?_ (by first | omega | (simp <;> omega)) _) | (with_reducible refine Below.drew ?_)))) (Nat.le_refl _) hb9
      have hsw9 := hTw9.size
      have hzw9 := hb9.size
      (try simp only [World.size_alloc, World.size_drew, World.size_setCell] at hzw9)
      have cb20w9_0 : w9.cell? ⟨wD.heap.size, 0, none⟩ = some (.int .i64 0) := (hb9.cell (p := ⟨wD.heap.size, 0, none⟩) (by show wD.heap.size < _; first | omega | (simp; done) | (simp; omega))).trans (by first | exact cb20w6_0 | (simp [go_sem]))
      have fb20w9_0 : w9.frozen? ⟨wD.heap.size, 0, none⟩ = false := (hb9.frozen (p := ⟨wD.heap.size, 0, none⟩) (by show wD.heap.size < _; first | omega | (simp; done) | (simp; omega))).trans (by first | exact fb20w6_0 | (simp [go_sem]))
      have cb20w9_1 : w9.cell? ⟨wD.heap.size, 1, none⟩ = some (.int .i64 0) := (hb9.cell (p := ⟨wD.heap.size, 1, none⟩) (by show wD.heap.size < _; first | omega | (simp; done) | (simp; omega))).trans (by first | exact cb20w6_1 | (simp [go_sem]))
      have fb20w9_1 : w9.frozen? ⟨wD.heap.size, 1, none⟩ = false := (hb9.frozen (p := ⟨wD.heap.size, 1, none⟩) (by show wD.heap.size < _; first | omega | (simp; done) | (simp; omega))).trans (by first | exact fb20w6_1 | (simp [go_sem]))
      have lb20w9 : wD.heap.size < w9.heap.size := by first | omega | (simp at hzw9; omega)
      have l_ownw9 : wD.heap.size + 1 < w9.heap.size := by first | omega | (simp at hzw9; omega)
      refine hK.out _ _ (hAll.out _ hTw9) (fun hS16 => ?_)
      clear hK K
      (try go_simp)
      refine wpAnyH_take (i := 19) (v := ?_) rfl (by kernel_rfl) (by kernel_rfl) (by kernel_rfl) (fun _ _ _ h => h) (Or.inl ⟨by rfl, ?_⟩) hS16 ?_
      rotate_left
      · (intro W hSw; (try dsimp only at hSw); go_split_ands; go_simp; (try with_reducible rfl))
      (try go_simp)
      refine wpAnyH_take (i := 20) (v := ?_) rfl (by kernel_rfl) (by kernel_rfl) (by kernel_rfl) (fun _ _ _ h => h) (Or.inl ⟨by rfl, ?_⟩) hS16 ?_
      rotate_left
      · (intro W hSw; (try dsimp only at hSw); go_split_ands; go_simp; (try with_reducible rfl))
      (try go_simp)
      refine wpAnyH_take (i := 21) (v := ?_) rfl (by kernel_rfl) (by kernel_rfl) (by kernel_rfl) (fun _ _ _ h => h) (Or.inl ⟨by rfl, ?_⟩) hS16 ?_
      rotate_left
      · (intro W hSw; (try dsimp only at hSw); go_split_ands; go_simp; (try with_reducible rfl))
      (try go_simp)
      refine wpAnyH_ready (rs := [23]) (by kernel_rfl) (by simp) ?_
      refine (AllReadyH.cons rfl (fun K hK => ?_) AllReadyH.nil)
      go_simp
      refine hK.out _ _ (hAll.out _ (by repeat (first | (with_reducible assumption) | exact Below.refl _ _ | (with_reducible refine Below.alloc ?_ (by first | omega | (simp <;> omega)) _) | (with_reducible refine Below.setCell ?_ (by first | omega | (simp <;> omega)) _) | (with_reducible refine Below.drew ?_)))) (fun hS17 => ?_)
      clear hK K
      (try go_simp)
      refine wpAnyH_take (i := 24) (v := ?_) rfl (by kernel_rfl) (by kernel_rfl) (by kernel_rfl) (fun _ _ _ h => h) (Or.inl ⟨by rfl, ?_⟩) hS17 ?_
      rotate_left
      · (intro W hSw; (try dsimp only at hSw); go_split_ands; go_simp; (try with_reducible rfl))
      (try go_simp)
      refine wpAnyH_done (by kernel_rfl) ?_ _
      (try go_simp)
      go_wp2_with fail
      go_meet
      exact ⟨_, rfl, rfl, by first | omega | (simp; done) | (simp; omega), by simp [go_sem, cb20w9_0, cb20w9_1, lb20w9], by simp [go_sem, cb20w9_0, cb20w9_1, lb20w9], (show Below _ _ _ from (by repeat (first | (with_reducible assumption) | exact Below.refl _ _ | (with_reducible refine Below.alloc ?_ (by first | omega | (simp <;> omega)) _) | (with_reducible refine Below.setCell ?_ (by first | omega | (simp <;> omega)) _) | (with_reducible refine Below.drew ?_))))⟩
  case rest =>
    obtain ⟨b20, rfl, rfl, l20, e0, e1, hT⟩ := hcut
    obtain ⟨wE, hWE⟩ : ∃ X, X = wc := ⟨_, rfl⟩
    subst hWE
    have hzE := hT.out.size
    replace q0 := (hT.out.cell (p := ⟨w.heap.size, 0, none⟩) (by show w.heap.size < _; omega)).trans q0
    replace q1 := (hT.out.cell (p := ⟨w.heap.size, 1, none⟩) (by show w.heap.size < _; omega)).trans q1
    replace q2 := (hT.out.cell (p := ⟨w.heap.size, 2, none⟩) (by show w.heap.size < _; omega)).trans q2
    replace q3 := (hT.out.cell (p := ⟨w.heap.size, 3, none⟩) (by show w.heap.size < _; omega)).trans q3
    replace q4 := (hT.out.cell (p := ⟨w.heap.size, 4, none⟩) (by show w.heap.size < _; omega)).trans q4
    replace q5 := (hT.out.cell (p := ⟨w.heap.size, 5, none⟩) (by show w.heap.size < _; omega)).trans q5
    replace q6 := (hT.out.cell (p := ⟨w.heap.size, 6, none⟩) (by show w.heap.size < _; omega)).trans q6
    replace q7 := (hT.out.cell (p := ⟨w.heap.size, 7, none⟩) (by show w.heap.size < _; omega)).trans q7
    replace q8 := (hT.out.cell (p := ⟨w.heap.size, 8, none⟩) (by show w.heap.size < _; omega)).trans q8
    replace q9 := (hT.out.cell (p := ⟨w.heap.size, 9, none⟩) (by show w.heap.size < _; omega)).trans q9
    replace s0 := (hT.out.cell (p := ⟨w.heap.size + 1, 0, none⟩) (by show w.heap.size + 1 < _; omega)).trans s0
    replace s1 := (hT.out.cell (p := ⟨w.heap.size + 1, 1, none⟩) (by show w.heap.size + 1 < _; omega)).trans s1
    replace c70 := (hT.out.cell (p := ⟨b7, 0, none⟩) (by show b7 < _; omega)).trans c70
    replace c71 := (hT.out.cell (p := ⟨b7, 1, none⟩) (by show b7 < _; omega)).trans c71
    have hBE : Below w.heap.size w wE := btS hBA (Nat.le_refl _) hT.out
    go_wp2_with fail
    exact sums_t13 r x0 x1 lo A n cc gs w HX h0 hn hl1 hl bx0 bx1 wE hBE a0 a1 ha0 ha1 ha2 (by omega) b7 b20 (by omega) l20 q0 q1 q2 q3 q4 q5 q6 q7 q8 q9 s0 s1 c70 c71 e0 e1

noncomputable def sumsTail6 : Code := dropC 6 (bodyC Try.f13)
set_option maxRecDepth 100000 in
set_option maxHeartbeats 4000000 in
theorem sums_t6 {z0 z2 z4 z6 z8 z11 z12 z13 z14 z15 z16 z17 z18 z19 z20 z21 z22 z23 z24 z25 z26 z27 z28 z29 z30 z31 z32 z33 z34 z35 z36 z37 z38 z39 z40 z41 z42 z43 z44 z45 z46 z47 z48 z49 z50 z51 z52 z53 z54 z55 z56 z57 z58 z59 z60 z61 z62 z63 z64 z65 z66 z67 z68 z69 z70 z71 z72 z73 z74 z75 z76 z77 z78 z79 z80 z81 z82 z83 z84 z85 z86 z87 z88 z89 z90 z91 z92 z93 z94 z95 z96 z97 z98 z99 z100 z101 z102 z103 z104 z105 z106 z107 z108 z109 z110 z111 z112 z113 z114 z115 z116 z117 z118 z119 z120 z121 z122 z123 z124 z125 z126 z127 z128 z129 z130 z131 z132 z133 z134 z135 z136 z137 z138 z139 z140 z141 z142 z143 z144 z145 z146 z147 z148 z149 z150 z151 z152 z153 z154 z155 z156 z157 z158 z159 z160 z161 z162 z163 z164 z165 z166 z167 z168 z169 z170 z171 z172 z173 z174 z175 z176 z177 z178 z179 z180 z181 z182 z183 z184 z185 z186 z187 z188 z189 z190 z191 z192 z193 z194 z195 z196 z197 z198 z199 z200 z201 z202 z203 z204 z205 z206 z207 z208 z209 z210 z211 z212 z213 z214 z215 z216 z217 z218 z219 z220 z221 z222 z223 z224 z225 z226 z227 z228 z229 z230 z231 z232 z233 z234 z235 z236 z237 z238 z239 z240 z241 z242 z243 z244 z245 z246 z247 z248 z249 z250 z251 z252 z253 z254 z255 z256 z257 z258 z259 z260 z261 z262 z263 z264 z265 z266 z267 z268 z269 z270 z271 z272 z273 z274 z275 z276 z277 z278 z279 z280 z281 z282 : Value} (r : TR) (x0 x1 : Int) (lo : Nat) (A : Option Addr) (n cc : Nat) (gs : List Gp) (w : World) (HX : Aside (gpL.at w lo A gs)) (h0 : A = none → n = 0 ∧ cc = 0) (hn : Aside (gs.length = n)) (hl1 : 1 ≤ n) (hl : n ≤ 30) (bx0 : 0 ≤ x0 ∧ x0 ≤ 65535) (bx1 : 0 ≤ x1 ∧ x1 ≤ 65535) (wC : World) (hBA : Below w.heap.size w wC) (a0 a1 : Int) (ha0 : 0 ≤ a0) (ha1 : a0 ≤ a1) (ha2 : a1 ≤ 606000000000) (HE : Aside (errG r gs = 0)) (HS : Aside (sumR (gs.map (giveR r)) = ⟨a0, a1⟩)) (hl0 : w.heap.size + 1 < wC.heap.size) (b7 : Nat) (l7 : b7 < wC.heap.size) (q0 : wC.cell? ⟨w.heap.size, 0, none⟩ = some (.int .i64 r.frost)) (q1 : wC.cell? ⟨w.heap.size, 1, none⟩ = some (.int .i64 r.thaw)) (q2 : wC.cell? ⟨w.heap.size, 2, none⟩ = some (.int .i64 r.gain)) (q3 : wC.cell? ⟨w.heap.size, 3, none⟩ = some (.int .i64 r.full)) (q4 : wC.cell? ⟨w.heap.size, 4, none⟩ = some (.int .i64 r.ice)) (q5 : wC.cell? ⟨w.heap.size, 5, none⟩ = some (.int .i64 r.most)) (q6 : wC.cell? ⟨w.heap.size, 6, none⟩ = some (.int .i64 r.melt)) (q7 : wC.cell? ⟨w.heap.size, 7, none⟩ = some (.int .i64 r.rlow)) (q8 : wC.cell? ⟨w.heap.size, 8, none⟩ = some (.int .i64 r.rhigh)) (q9 : wC.cell? ⟨w.heap.size, 9, none⟩ = some (.int .i64 r.pull)) (s0 : wC.cell? ⟨w.heap.size + 1, 0, none⟩ = some (.int .u16 x0)) (s1 : wC.cell? ⟨w.heap.size + 1, 1, none⟩ = some (.int .u16 x1)) (c70 : wC.cell? ⟨b7, 0, none⟩ = some (.int .i64 a0)) (c71 : wC.cell? ⟨b7, 1, none⟩ = some (.int .i64 a1)) :
    Code.wp Try.prog sumsTail6 (bodyPost Try.prog Try.f13 fun e w' => e = .returned (.bool true) ∧ Below w.heap.size w w') ⟨List.toArray (z0 :: .slice A n cc :: z2 :: .pointer (some ⟨w.heap.size, 0, none⟩) :: z4 :: .pointer (some ⟨w.heap.size + 1, 0, none⟩) :: z6 :: .pointer (some ⟨b7, 0, none⟩) :: z8 :: .int .i64 a0 :: .int .i64 a1 :: z11 :: z12 :: z13 :: z14 :: z15 :: z16 :: z17 :: z18 :: z19 :: z20 :: z21 :: z22 :: z23 :: z24 :: z25 :: z26 :: z27 :: z28 :: z29 :: z30 :: z31 :: z32 :: z33 :: z34 :: z35 :: z36 :: z37 :: z38 :: z39 :: z40 :: z41 :: z42 :: z43 :: z44 :: z45 :: z46 :: z47 :: z48 :: z49 :: z50 :: z51 :: z52 :: z53 :: z54 :: z55 :: z56 :: z57 :: z58 :: z59 :: z60 :: z61 :: z62 :: z63 :: z64 :: z65 :: z66 :: z67 :: z68 :: z69 :: z70 :: z71 :: z72 :: z73 :: z74 :: z75 :: z76 :: z77 :: z78 :: z79 :: z80 :: z81 :: z82 :: z83 :: z84 :: z85 :: z86 :: z87 :: z88 :: z89 :: z90 :: z91 :: z92 :: z93 :: z94 :: z95 :: z96 :: z97 :: z98 :: z99 :: z100 :: z101 :: z102 :: z103 :: z104 :: z105 :: z106 :: z107 :: z108 :: z109 :: z110 :: z111 :: z112 :: z113 :: z114 :: z115 :: z116 :: z117 :: z118 :: z119 :: z120 :: z121 :: z122 :: z123 :: z124 :: z125 :: z126 :: z127 :: z128 :: z129 :: z130 :: z131 :: z132 :: z133 :: z134 :: z135 :: z136 :: z137 :: z138 :: z139 :: z140 :: z141 :: z142 :: z143 :: z144 :: z145 :: z146 :: z147 :: z148 :: z149 :: z150 :: z151 :: z152 :: z153 :: z154 :: z155 :: z156 :: z157 :: z158 :: z159 :: z160 :: z161 :: z162 :: z163 :: z164 :: z165 :: z166 :: z167 :: z168 :: z169 :: z170 :: z171 :: z172 :: z173 :: z174 :: z175 :: z176 :: z177 :: z178 :: z179 :: z180 :: z181 :: z182 :: z183 :: z184 :: z185 :: z186 :: z187 :: z188 :: z189 :: z190 :: z191 :: z192 :: z193 :: z194 :: z195 :: z196 :: z197 :: z198 :: z199 :: z200 :: z201 :: z202 :: z203 :: z204 :: z205 :: z206 :: z207 :: z208 :: z209 :: z210 :: z211 :: z212 :: z213 :: z214 :: z215 :: z216 :: z217 :: z218 :: z219 :: z220 :: z221 :: z222 :: z223 :: z224 :: z225 :: z226 :: z227 :: z228 :: z229 :: z230 :: z231 :: z232 :: z233 :: z234 :: z235 :: z236 :: z237 :: z238 :: z239 :: z240 :: z241 :: z242 :: z243 :: z244 :: z245 :: z246 :: z247 :: z248 :: z249 :: z250 :: z251 :: z252 :: z253 :: z254 :: z255 :: z256 :: z257 :: z258 :: z259 :: z260 :: z261 :: z262 :: z263 :: z264 :: z265 :: z266 :: z267 :: z268 :: z269 :: z270 :: z271 :: z272 :: z273 :: z274 :: z275 :: z276 :: z277 :: z278 :: z279 :: z280 :: z281 :: z282 :: []), []⟩ wC := by
  have hR : sumsTail12 = dropC 6 sumsTail6 := (dropC_add 6 6 _).symm
  refine wp_tail 6 hR ?_
  conv => arg 2; simp only [sumsTail6, bodyC, Try.f13, Option.getD_some, dropC, mkC]
  have hsz := hBA.size
  obtain ⟨hok, h60, hall⟩ := errG_parts HE.out
  have hr := (okRules_iff r).1 hok
  have hA1 : A ≠ none := fun h => by have := (h0 h).1; omega
  obtain ⟨bb, oo, hAA, hlo, hlb, hcs⟩ := HX.out (by have := hn.out; omega)
  have hAA' := Lib.hid hAA
  have hgm : gs[0]?.getD gpL.d ∈ gs := by
    have : 0 < gs.length := by have := hn.out; omega
    rw [List.getElem?_eq_getElem this]; exact List.getElem_mem _
  have hgok := hall _ hgm
  have e0 := (hBA.cell (p := ⟨bb, oo + 0 * 3 + 0, none⟩) hlb).trans (hcs 0 0 (by have := hn.out; omega) (by show 0 < 3; omega))
  have e1 := (hBA.cell (p := ⟨bb, oo + 0 * 3 + 1, none⟩) hlb).trans (hcs 0 1 (by have := hn.out; omega) (by show 1 < 3; omega))
  have e2 := (hBA.cell (p := ⟨bb, oo + 0 * 3 + 2, none⟩) hlb).trans (hcs 0 2 (by have := hn.out; omega) (by show 2 < 3; omega))
  generalize gs[0]?.getD gpL.d = gg at e0 e1 e2 hgok
  obtain ⟨gt, gl, gh⟩ := gg
  replace e0 : wC.cell? ⟨bb, oo, none⟩ = some (.int .i64 gt) := by rw [show oo + 0 * 3 + 0 = oo by omega] at e0; exact e0
  replace e1 : wC.cell? ⟨bb, oo + 1, none⟩ = some (.int .i64 gl) := by rw [show oo + 0 * 3 + 1 = oo + 1 by omega] at e1; exact e1
  replace e2 : wC.cell? ⟨bb, oo + 2, none⟩ = some (.int .i64 gh) := by rw [show oo + 0 * 3 + 2 = oo + 2 by omega] at e2; exact e2
  obtain ⟨⟨gt1, gt2⟩, gl1, gl2, gh2⟩ := (okG_iff _).1 hgok
  simp only at gt1 gt2 gl1 gl2 gh2
  have k7 : okG ⟨7, gl, gh⟩ = true := (okG_iff _).2 ⟨⟨by simp only; omega, by simp only; omega⟩, by simp only; omega, by simp only; omega, by simp only; omega⟩
  have k5 : okG ⟨5, gl, gh⟩ = true := (okG_iff _).2 ⟨⟨by simp only; omega, by simp only; omega⟩, by simp only; omega, by simp only; omega, by simp only; omega⟩
  have k12 : okG ⟨12, gl, gh⟩ = true := (okG_iff _).2 ⟨⟨by simp only; omega, by simp only; omega⟩, by simp only; omega, by simp only; omega, by simp only; omega⟩
  have kM : okG ⟨12, min 10000 (gl + x0), 10000⟩ = true := (okG_iff _).2 ⟨⟨by simp only; omega, by simp only; omega⟩, by simp only; omega, by simp only; omega, by simp only; omega⟩
  have hG2 := fun A' (W : World) (h : gpL.at W 0 A' [⟨7, gl, gh⟩, ⟨5, gl, gh⟩]) => gives_any r 0 A' 2 2 [⟨7, gl, gh⟩, ⟨5, gl, gh⟩] W h rfl (by unfold maxLen; omega)
  have hG1 := fun A' (W : World) (h : gpL.at W 0 A' [⟨12, gl, gh⟩]) => gives_any r 0 A' 1 1 [⟨12, gl, gh⟩] W h rfl (by unfold maxLen; omega)
  have hGM := fun A' (W : World) (h : gpL.at W 0 A' [⟨12, min 10000 (gl + x0), 10000⟩]) => gives_any r 0 A' 1 1 [⟨12, min 10000 (gl + x0), 10000⟩] W h rfl (by unfold maxLen; omega)
  rw [errG_two hok k7 k5, if_pos rfl] at hG2
  rw [errG_one hok k12, if_pos rfl, List.map_cons, List.map_nil, sumR_one] at hG1
  rw [errG_one hok kM, if_pos rfl, List.map_cons, List.map_nil, sumR_one] at hGM
  simp only [List.map_cons, List.map_nil] at hG2
  obtain ⟨c1, c2, c3, c4, c5⟩ := give_seven hr gl1 gl2 gh2 (show gl ≤ min 10000 (gl + x0) by omega) (show min 10000 (gl + x0) ≤ 10000 by omega)
  have bd1 := giveR_ok hr k7
  have bd2 := giveR_ok hr k5
  have bB : -100000000000000 ≤ (sumR [giveR r ⟨7, gl, gh⟩, giveR r ⟨5, gl, gh⟩]).lo ∧ (sumR [giveR r ⟨7, gl, gh⟩, giveR r ⟨5, gl, gh⟩]).lo ≤ 100000000000000 ∧ -100000000000000 ≤ (sumR [giveR r ⟨7, gl, gh⟩, giveR r ⟨5, gl, gh⟩]).hi ∧ (sumR [giveR r ⟨7, gl, gh⟩, giveR r ⟨5, gl, gh⟩]).hi ≤ 100000000000000 := by rw [sumR_two]; simp only; omega
  rw [show rV r = .agg #[.int .i64 r.frost, .int .i64 r.thaw, .int .i64 r.gain, .int .i64 r.full, .int .i64 r.ice, .int .i64 r.most, .int .i64 r.melt, .int .i64 r.rlow, .int .i64 r.rhigh, .int .i64 r.pull] from rfl] at hG2 hG1 hGM
  unfold GivesPost at hG2 hG1 hGM
  generalize sumR [giveR r ⟨7, gl, gh⟩, giveR r ⟨5, gl, gh⟩] = RB at hG2 c1 c2 c3 c4 bB
  generalize giveR r ⟨12, gl, gh⟩ = RO at hG1 c1 c2 c3 c4 c5
  generalize giveR r ⟨12, min 10000 (gl + x0), 10000⟩ = RM at hGM c5
  obtain ⟨rb0, rb1⟩ := RB
  obtain ⟨ro0, ro1⟩ := RO
  obtain ⟨rm0, rm1⟩ := RM
  simp only at hG2 hG1 hGM c1 c2 c3 c4 c5 bB
  have wm : wrap64 (gl + x0) = gl + x0 := IntWalk.wrap64_in _ ⟨by omega, by omega⟩
  have wb0 : wrap64 (rb0 + 1) = rb0 + 1 := IntWalk.wrap64_in _ ⟨by omega, by omega⟩
  have wb1 : wrap64 (rb1 - 1) = rb1 - 1 := IntWalk.wrap64_in _ ⟨by omega, by omega⟩
  have hnn : (0 : Int) < (n : Int) := by omega
  have hltb : bb < wC.heap.size := Nat.lt_of_lt_of_le hlb hsz
  have HALL := Lib.hid hall
  have hBwC := hBA
  clear hcs hall hgm hgok k7 k5 k12 kM bd1 bd2 hAA hlo
  obtain rfl := hAA'.out
  clear hAA'
  go_upto_region 17 with fail
  obtain ⟨wD0, hNwD0⟩ : ∃ X, X = wC.alloc (.cells #[.int .i64 gt, .int .i64 gl, .int .i64 gh] 102) := ⟨_, rfl⟩
  have hbwD0 : Below wC.heap.size wC wD0 := by rw [hNwD0]; exact (Below.refl _ _).alloc (Nat.le_refl _) _
  have hxwD0 : wC.heap.size < wD0.heap.size := by rw [hNwD0]; simp
  have g0 : wD0.cell? ⟨wC.heap.size, 0, none⟩ = some (.int .i64 gt) := by rw [hNwD0]; simp [go_sem]
  have g1 : wD0.cell? ⟨wC.heap.size, 1, none⟩ = some (.int .i64 gl) := by rw [hNwD0]; simp [go_sem]
  have g2 : wD0.cell? ⟨wC.heap.size, 2, none⟩ = some (.int .i64 gh) := by rw [hNwD0]; simp [go_sem]
  rw [← hNwD0]
  clear hNwD0
  have hzwD0 := hbwD0.size
  replace q0 := (hbwD0.cell (p := ⟨w.heap.size, 0, none⟩) (by show w.heap.size < _; omega)).trans q0
  replace q1 := (hbwD0.cell (p := ⟨w.heap.size, 1, none⟩) (by show w.heap.size < _; omega)).trans q1
  replace q2 := (hbwD0.cell (p := ⟨w.heap.size, 2, none⟩) (by show w.heap.size < _; omega)).trans q2
  replace q3 := (hbwD0.cell (p := ⟨w.heap.size, 3, none⟩) (by show w.heap.size < _; omega)).trans q3
  replace q4 := (hbwD0.cell (p := ⟨w.heap.size, 4, none⟩) (by show w.heap.size < _; omega)).trans q4
  replace q5 := (hbwD0.cell (p := ⟨w.heap.size, 5, none⟩) (by show w.heap.size < _; omega)).trans q5
  replace q6 := (hbwD0.cell (p := ⟨w.heap.size, 6, none⟩) (by show w.heap.size < _; omega)).trans q6
  replace q7 := (hbwD0.cell (p := ⟨w.heap.size, 7, none⟩) (by show w.heap.size < _; omega)).trans q7
  replace q8 := (hbwD0.cell (p := ⟨w.heap.size, 8, none⟩) (by show w.heap.size < _; omega)).trans q8
  replace q9 := (hbwD0.cell (p := ⟨w.heap.size, 9, none⟩) (by show w.heap.size < _; omega)).trans q9
  replace s0 := (hbwD0.cell (p := ⟨w.heap.size + 1, 0, none⟩) (by show w.heap.size + 1 < _; omega)).trans s0
  replace s1 := (hbwD0.cell (p := ⟨w.heap.size + 1, 1, none⟩) (by show w.heap.size + 1 < _; omega)).trans s1
  replace c70 := (hbwD0.cell (p := ⟨b7, 0, none⟩) (by show b7 < _; omega)).trans c70
  replace c71 := (hbwD0.cell (p := ⟨b7, 1, none⟩) (by show b7 < _; omega)).trans c71
  have hl0wD0 : w.heap.size + 1 < wD0.heap.size := by omega
  replace l7 : b7 < wD0.heap.size := by omega
  have hBwD0 : Below w.heap.size w wD0 := btS hBwC (by omega) hbwD0
  have m14 : wC.heap.size < wD0.heap.size := hxwD0
  go_wp2_with fail
  refine (hG2 _ _ (gp_at2 (by simp [go_sem]) (by simp [go_sem]) (by simp [go_sem]) (by simp [go_sem]) (by simp [go_sem]) (by simp [go_sem]) (by simp))).mono ?_
  rintro e wD1 ⟨rfl, hbqwD1⟩
  have hbwD1 : Below wD0.heap.size wD0 wD1 := ((Below.refl _ _).alloc (Nat.le_refl _) _).trans (hbqwD1.mono (by simp))
  clear hbqwD1
  have hzwD1 := hbwD1.size
  replace q0 := (hbwD1.cell (p := ⟨w.heap.size, 0, none⟩) (by show w.heap.size < _; omega)).trans q0
  replace q1 := (hbwD1.cell (p := ⟨w.heap.size, 1, none⟩) (by show w.heap.size < _; omega)).trans q1
  replace q2 := (hbwD1.cell (p := ⟨w.heap.size, 2, none⟩) (by show w.heap.size < _; omega)).trans q2
  replace q3 := (hbwD1.cell (p := ⟨w.heap.size, 3, none⟩) (by show w.heap.size < _; omega)).trans q3
  replace q4 := (hbwD1.cell (p := ⟨w.heap.size, 4, none⟩) (by show w.heap.size < _; omega)).trans q4
  replace q5 := (hbwD1.cell (p := ⟨w.heap.size, 5, none⟩) (by show w.heap.size < _; omega)).trans q5
  replace q6 := (hbwD1.cell (p := ⟨w.heap.size, 6, none⟩) (by show w.heap.size < _; omega)).trans q6
  replace q7 := (hbwD1.cell (p := ⟨w.heap.size, 7, none⟩) (by show w.heap.size < _; omega)).trans q7
  replace q8 := (hbwD1.cell (p := ⟨w.heap.size, 8, none⟩) (by show w.heap.size < _; omega)).trans q8
  replace q9 := (hbwD1.cell (p := ⟨w.heap.size, 9, none⟩) (by show w.heap.size < _; omega)).trans q9
  replace s0 := (hbwD1.cell (p := ⟨w.heap.size + 1, 0, none⟩) (by show w.heap.size + 1 < _; omega)).trans s0
  replace s1 := (hbwD1.cell (p := ⟨w.heap.size + 1, 1, none⟩) (by show w.heap.size + 1 < _; omega)).trans s1
  replace c70 := (hbwD1.cell (p := ⟨b7, 0, none⟩) (by show b7 < _; omega)).trans c70
  replace c71 := (hbwD1.cell (p := ⟨b7, 1, none⟩) (by show b7 < _; omega)).trans c71
  replace g0 := (hbwD1.cell (p := ⟨wC.heap.size, 0, none⟩) (by show wC.heap.size < _; omega)).trans g0
  replace g1 := (hbwD1.cell (p := ⟨wC.heap.size, 1, none⟩) (by show wC.heap.size < _; omega)).trans g1
  replace g2 := (hbwD1.cell (p := ⟨wC.heap.size, 2, none⟩) (by show wC.heap.size < _; omega)).trans g2
  have hl0wD1 : w.heap.size + 1 < wD1.heap.size := by omega
  replace l7 : b7 < wD1.heap.size := by omega
  replace m14 : wC.heap.size < wD1.heap.size := by omega
  have hBwD1 : Below w.heap.size w wD1 := btS hBwD0 (by omega) hbwD1
  go_upto_region 18 with fail
  obtain ⟨wD2, hNwD2⟩ : ∃ X, X = wD1.alloc (.cells #[.int .i64 rb0, .int .i64 rb1] 23) := ⟨_, rfl⟩
  have hbwD2 : Below wD1.heap.size wD1 wD2 := by rw [hNwD2]; exact (Below.refl _ _).alloc (Nat.le_refl _) _
  have hxwD2 : wD1.heap.size < wD2.heap.size := by rw [hNwD2]; simp
  have k0 : wD2.cell? ⟨wD1.heap.size, 0, none⟩ = some (.int .i64 rb0) := by rw [hNwD2]; simp [go_sem]
  have k1 : wD2.cell? ⟨wD1.heap.size, 1, none⟩ = some (.int .i64 rb1) := by rw [hNwD2]; simp [go_sem]
  rw [← hNwD2]
  clear hNwD2
  have hzwD2 := hbwD2.size
  replace q0 := (hbwD2.cell (p := ⟨w.heap.size, 0, none⟩) (by show w.heap.size < _; omega)).trans q0
  replace q1 := (hbwD2.cell (p := ⟨w.heap.size, 1, none⟩) (by show w.heap.size < _; omega)).trans q1
  replace q2 := (hbwD2.cell (p := ⟨w.heap.size, 2, none⟩) (by show w.heap.size < _; omega)).trans q2
  replace q3 := (hbwD2.cell (p := ⟨w.heap.size, 3, none⟩) (by show w.heap.size < _; omega)).trans q3
  replace q4 := (hbwD2.cell (p := ⟨w.heap.size, 4, none⟩) (by show w.heap.size < _; omega)).trans q4
  replace q5 := (hbwD2.cell (p := ⟨w.heap.size, 5, none⟩) (by show w.heap.size < _; omega)).trans q5
  replace q6 := (hbwD2.cell (p := ⟨w.heap.size, 6, none⟩) (by show w.heap.size < _; omega)).trans q6
  replace q7 := (hbwD2.cell (p := ⟨w.heap.size, 7, none⟩) (by show w.heap.size < _; omega)).trans q7
  replace q8 := (hbwD2.cell (p := ⟨w.heap.size, 8, none⟩) (by show w.heap.size < _; omega)).trans q8
  replace q9 := (hbwD2.cell (p := ⟨w.heap.size, 9, none⟩) (by show w.heap.size < _; omega)).trans q9
  replace s0 := (hbwD2.cell (p := ⟨w.heap.size + 1, 0, none⟩) (by show w.heap.size + 1 < _; omega)).trans s0
  replace s1 := (hbwD2.cell (p := ⟨w.heap.size + 1, 1, none⟩) (by show w.heap.size + 1 < _; omega)).trans s1
  replace c70 := (hbwD2.cell (p := ⟨b7, 0, none⟩) (by show b7 < _; omega)).trans c70
  replace c71 := (hbwD2.cell (p := ⟨b7, 1, none⟩) (by show b7 < _; omega)).trans c71
  replace g0 := (hbwD2.cell (p := ⟨wC.heap.size, 0, none⟩) (by show wC.heap.size < _; omega)).trans g0
  replace g1 := (hbwD2.cell (p := ⟨wC.heap.size, 1, none⟩) (by show wC.heap.size < _; omega)).trans g1
  replace g2 := (hbwD2.cell (p := ⟨wC.heap.size, 2, none⟩) (by show wC.heap.size < _; omega)).trans g2
  have hl0wD2 : w.heap.size + 1 < wD2.heap.size := by omega
  replace l7 : b7 < wD2.heap.size := by omega
  replace m14 : wC.heap.size < wD2.heap.size := by omega
  have hBwD2 : Below w.heap.size w wD2 := btS hBwD1 (by omega) hbwD2
  have m15 : wD1.heap.size < wD2.heap.size := hxwD2
  go_wp2_with fail
  refine (hG1 _ _ (gp_at1 (by simp [go_sem]) (by simp [go_sem]) (by simp [go_sem]) (by simp))).mono ?_
  rintro e wD3 ⟨rfl, hbqwD3⟩
  have hbwD3 : Below wD2.heap.size wD2 wD3 := ((Below.refl _ _).alloc (Nat.le_refl _) _).trans (hbqwD3.mono (by simp))
  clear hbqwD3
  have hzwD3 := hbwD3.size
  replace q0 := (hbwD3.cell (p := ⟨w.heap.size, 0, none⟩) (by show w.heap.size < _; omega)).trans q0
  replace q1 := (hbwD3.cell (p := ⟨w.heap.size, 1, none⟩) (by show w.heap.size < _; omega)).trans q1
  replace q2 := (hbwD3.cell (p := ⟨w.heap.size, 2, none⟩) (by show w.heap.size < _; omega)).trans q2
  replace q3 := (hbwD3.cell (p := ⟨w.heap.size, 3, none⟩) (by show w.heap.size < _; omega)).trans q3
  replace q4 := (hbwD3.cell (p := ⟨w.heap.size, 4, none⟩) (by show w.heap.size < _; omega)).trans q4
  replace q5 := (hbwD3.cell (p := ⟨w.heap.size, 5, none⟩) (by show w.heap.size < _; omega)).trans q5
  replace q6 := (hbwD3.cell (p := ⟨w.heap.size, 6, none⟩) (by show w.heap.size < _; omega)).trans q6
  replace q7 := (hbwD3.cell (p := ⟨w.heap.size, 7, none⟩) (by show w.heap.size < _; omega)).trans q7
  replace q8 := (hbwD3.cell (p := ⟨w.heap.size, 8, none⟩) (by show w.heap.size < _; omega)).trans q8
  replace q9 := (hbwD3.cell (p := ⟨w.heap.size, 9, none⟩) (by show w.heap.size < _; omega)).trans q9
  replace s0 := (hbwD3.cell (p := ⟨w.heap.size + 1, 0, none⟩) (by show w.heap.size + 1 < _; omega)).trans s0
  replace s1 := (hbwD3.cell (p := ⟨w.heap.size + 1, 1, none⟩) (by show w.heap.size + 1 < _; omega)).trans s1
  replace c70 := (hbwD3.cell (p := ⟨b7, 0, none⟩) (by show b7 < _; omega)).trans c70
  replace c71 := (hbwD3.cell (p := ⟨b7, 1, none⟩) (by show b7 < _; omega)).trans c71
  replace g0 := (hbwD3.cell (p := ⟨wC.heap.size, 0, none⟩) (by show wC.heap.size < _; omega)).trans g0
  replace g1 := (hbwD3.cell (p := ⟨wC.heap.size, 1, none⟩) (by show wC.heap.size < _; omega)).trans g1
  replace g2 := (hbwD3.cell (p := ⟨wC.heap.size, 2, none⟩) (by show wC.heap.size < _; omega)).trans g2
  replace k0 := (hbwD3.cell (p := ⟨wD1.heap.size, 0, none⟩) (by show wD1.heap.size < _; omega)).trans k0
  replace k1 := (hbwD3.cell (p := ⟨wD1.heap.size, 1, none⟩) (by show wD1.heap.size < _; omega)).trans k1
  have hl0wD3 : w.heap.size + 1 < wD3.heap.size := by omega
  replace l7 : b7 < wD3.heap.size := by omega
  replace m14 : wC.heap.size < wD3.heap.size := by omega
  replace m15 : wD1.heap.size < wD3.heap.size := by omega
  have hBwD3 : Below w.heap.size w wD3 := btS hBwD2 (by omega) hbwD3
  go_upto_region 19 with fail
  obtain ⟨wD4, hNwD4⟩ : ∃ X, X = wD3.alloc (.cells #[.int .i64 ro0, .int .i64 ro1] 23) := ⟨_, rfl⟩
  have hbwD4 : Below wD3.heap.size wD3 wD4 := by rw [hNwD4]; exact (Below.refl _ _).alloc (Nat.le_refl _) _
  have hxwD4 : wD3.heap.size < wD4.heap.size := by rw [hNwD4]; simp
  have m0 : wD4.cell? ⟨wD3.heap.size, 0, none⟩ = some (.int .i64 ro0) := by rw [hNwD4]; simp [go_sem]
  have m1 : wD4.cell? ⟨wD3.heap.size, 1, none⟩ = some (.int .i64 ro1) := by rw [hNwD4]; simp [go_sem]
  rw [← hNwD4]
  clear hNwD4
  have hzwD4 := hbwD4.size
  replace q0 := (hbwD4.cell (p := ⟨w.heap.size, 0, none⟩) (by show w.heap.size < _; omega)).trans q0
  replace q1 := (hbwD4.cell (p := ⟨w.heap.size, 1, none⟩) (by show w.heap.size < _; omega)).trans q1
  replace q2 := (hbwD4.cell (p := ⟨w.heap.size, 2, none⟩) (by show w.heap.size < _; omega)).trans q2
  replace q3 := (hbwD4.cell (p := ⟨w.heap.size, 3, none⟩) (by show w.heap.size < _; omega)).trans q3
  replace q4 := (hbwD4.cell (p := ⟨w.heap.size, 4, none⟩) (by show w.heap.size < _; omega)).trans q4
  replace q5 := (hbwD4.cell (p := ⟨w.heap.size, 5, none⟩) (by show w.heap.size < _; omega)).trans q5
  replace q6 := (hbwD4.cell (p := ⟨w.heap.size, 6, none⟩) (by show w.heap.size < _; omega)).trans q6
  replace q7 := (hbwD4.cell (p := ⟨w.heap.size, 7, none⟩) (by show w.heap.size < _; omega)).trans q7
  replace q8 := (hbwD4.cell (p := ⟨w.heap.size, 8, none⟩) (by show w.heap.size < _; omega)).trans q8
  replace q9 := (hbwD4.cell (p := ⟨w.heap.size, 9, none⟩) (by show w.heap.size < _; omega)).trans q9
  replace s0 := (hbwD4.cell (p := ⟨w.heap.size + 1, 0, none⟩) (by show w.heap.size + 1 < _; omega)).trans s0
  replace s1 := (hbwD4.cell (p := ⟨w.heap.size + 1, 1, none⟩) (by show w.heap.size + 1 < _; omega)).trans s1
  replace c70 := (hbwD4.cell (p := ⟨b7, 0, none⟩) (by show b7 < _; omega)).trans c70
  replace c71 := (hbwD4.cell (p := ⟨b7, 1, none⟩) (by show b7 < _; omega)).trans c71
  replace g0 := (hbwD4.cell (p := ⟨wC.heap.size, 0, none⟩) (by show wC.heap.size < _; omega)).trans g0
  replace g1 := (hbwD4.cell (p := ⟨wC.heap.size, 1, none⟩) (by show wC.heap.size < _; omega)).trans g1
  replace g2 := (hbwD4.cell (p := ⟨wC.heap.size, 2, none⟩) (by show wC.heap.size < _; omega)).trans g2
  replace k0 := (hbwD4.cell (p := ⟨wD1.heap.size, 0, none⟩) (by show wD1.heap.size < _; omega)).trans k0
  replace k1 := (hbwD4.cell (p := ⟨wD1.heap.size, 1, none⟩) (by show wD1.heap.size < _; omega)).trans k1
  have hl0wD4 : w.heap.size + 1 < wD4.heap.size := by omega
  replace l7 : b7 < wD4.heap.size := by omega
  replace m14 : wC.heap.size < wD4.heap.size := by omega
  replace m15 : wD1.heap.size < wD4.heap.size := by omega
  have hBwD4 : Below w.heap.size w wD4 := btS hBwD3 (by omega) hbwD4
  have m16 : wD3.heap.size < wD4.heap.size := hxwD4
  go_wp2_with fail
  refine (hGM _ _ (gp_at1 (by simp [go_sem]) (by simp [go_sem]) (by simp [go_sem]) (by simp))).mono ?_
  rintro e wD5 ⟨rfl, hbqwD5⟩
  have hbwD5 : Below wD4.heap.size wD4 wD5 := ((Below.refl _ _).alloc (Nat.le_refl _) _).trans (hbqwD5.mono (by simp))
  clear hbqwD5
  have hzwD5 := hbwD5.size
  replace q0 := (hbwD5.cell (p := ⟨w.heap.size, 0, none⟩) (by show w.heap.size < _; omega)).trans q0
  replace q1 := (hbwD5.cell (p := ⟨w.heap.size, 1, none⟩) (by show w.heap.size < _; omega)).trans q1
  replace q2 := (hbwD5.cell (p := ⟨w.heap.size, 2, none⟩) (by show w.heap.size < _; omega)).trans q2
  replace q3 := (hbwD5.cell (p := ⟨w.heap.size, 3, none⟩) (by show w.heap.size < _; omega)).trans q3
  replace q4 := (hbwD5.cell (p := ⟨w.heap.size, 4, none⟩) (by show w.heap.size < _; omega)).trans q4
  replace q5 := (hbwD5.cell (p := ⟨w.heap.size, 5, none⟩) (by show w.heap.size < _; omega)).trans q5
  replace q6 := (hbwD5.cell (p := ⟨w.heap.size, 6, none⟩) (by show w.heap.size < _; omega)).trans q6
  replace q7 := (hbwD5.cell (p := ⟨w.heap.size, 7, none⟩) (by show w.heap.size < _; omega)).trans q7
  replace q8 := (hbwD5.cell (p := ⟨w.heap.size, 8, none⟩) (by show w.heap.size < _; omega)).trans q8
  replace q9 := (hbwD5.cell (p := ⟨w.heap.size, 9, none⟩) (by show w.heap.size < _; omega)).trans q9
  replace s0 := (hbwD5.cell (p := ⟨w.heap.size + 1, 0, none⟩) (by show w.heap.size + 1 < _; omega)).trans s0
  replace s1 := (hbwD5.cell (p := ⟨w.heap.size + 1, 1, none⟩) (by show w.heap.size + 1 < _; omega)).trans s1
  replace c70 := (hbwD5.cell (p := ⟨b7, 0, none⟩) (by show b7 < _; omega)).trans c70
  replace c71 := (hbwD5.cell (p := ⟨b7, 1, none⟩) (by show b7 < _; omega)).trans c71
  replace g0 := (hbwD5.cell (p := ⟨wC.heap.size, 0, none⟩) (by show wC.heap.size < _; omega)).trans g0
  replace g1 := (hbwD5.cell (p := ⟨wC.heap.size, 1, none⟩) (by show wC.heap.size < _; omega)).trans g1
  replace g2 := (hbwD5.cell (p := ⟨wC.heap.size, 2, none⟩) (by show wC.heap.size < _; omega)).trans g2
  replace k0 := (hbwD5.cell (p := ⟨wD1.heap.size, 0, none⟩) (by show wD1.heap.size < _; omega)).trans k0
  replace k1 := (hbwD5.cell (p := ⟨wD1.heap.size, 1, none⟩) (by show wD1.heap.size < _; omega)).trans k1
  replace m0 := (hbwD5.cell (p := ⟨wD3.heap.size, 0, none⟩) (by show wD3.heap.size < _; omega)).trans m0
  replace m1 := (hbwD5.cell (p := ⟨wD3.heap.size, 1, none⟩) (by show wD3.heap.size < _; omega)).trans m1
  have hl0wD5 : w.heap.size + 1 < wD5.heap.size := by omega
  replace l7 : b7 < wD5.heap.size := by omega
  replace m14 : wC.heap.size < wD5.heap.size := by omega
  replace m15 : wD1.heap.size < wD5.heap.size := by omega
  replace m16 : wD3.heap.size < wD5.heap.size := by omega
  have hBwD5 : Below w.heap.size w wD5 := btS hBwD4 (by omega) hbwD5
  go_upto_region 20 with fail
  obtain ⟨wD6, hNwD6⟩ : ∃ X, X = wD5.alloc (.cells #[.int .i64 rm0, .int .i64 rm1] 23) := ⟨_, rfl⟩
  have hbwD6 : Below wD5.heap.size wD5 wD6 := by rw [hNwD6]; exact (Below.refl _ _).alloc (Nat.le_refl _) _
  have hxwD6 : wD5.heap.size < wD6.heap.size := by rw [hNwD6]; simp
  have j0 : wD6.cell? ⟨wD5.heap.size, 0, none⟩ = some (.int .i64 rm0) := by rw [hNwD6]; simp [go_sem]
  have j1 : wD6.cell? ⟨wD5.heap.size, 1, none⟩ = some (.int .i64 rm1) := by rw [hNwD6]; simp [go_sem]
  rw [← hNwD6]
  clear hNwD6
  have hzwD6 := hbwD6.size
  replace q0 := (hbwD6.cell (p := ⟨w.heap.size, 0, none⟩) (by show w.heap.size < _; omega)).trans q0
  replace q1 := (hbwD6.cell (p := ⟨w.heap.size, 1, none⟩) (by show w.heap.size < _; omega)).trans q1
  replace q2 := (hbwD6.cell (p := ⟨w.heap.size, 2, none⟩) (by show w.heap.size < _; omega)).trans q2
  replace q3 := (hbwD6.cell (p := ⟨w.heap.size, 3, none⟩) (by show w.heap.size < _; omega)).trans q3
  replace q4 := (hbwD6.cell (p := ⟨w.heap.size, 4, none⟩) (by show w.heap.size < _; omega)).trans q4
  replace q5 := (hbwD6.cell (p := ⟨w.heap.size, 5, none⟩) (by show w.heap.size < _; omega)).trans q5
  replace q6 := (hbwD6.cell (p := ⟨w.heap.size, 6, none⟩) (by show w.heap.size < _; omega)).trans q6
  replace q7 := (hbwD6.cell (p := ⟨w.heap.size, 7, none⟩) (by show w.heap.size < _; omega)).trans q7
  replace q8 := (hbwD6.cell (p := ⟨w.heap.size, 8, none⟩) (by show w.heap.size < _; omega)).trans q8
  replace q9 := (hbwD6.cell (p := ⟨w.heap.size, 9, none⟩) (by show w.heap.size < _; omega)).trans q9
  replace s0 := (hbwD6.cell (p := ⟨w.heap.size + 1, 0, none⟩) (by show w.heap.size + 1 < _; omega)).trans s0
  replace s1 := (hbwD6.cell (p := ⟨w.heap.size + 1, 1, none⟩) (by show w.heap.size + 1 < _; omega)).trans s1
  replace c70 := (hbwD6.cell (p := ⟨b7, 0, none⟩) (by show b7 < _; omega)).trans c70
  replace c71 := (hbwD6.cell (p := ⟨b7, 1, none⟩) (by show b7 < _; omega)).trans c71
  replace g0 := (hbwD6.cell (p := ⟨wC.heap.size, 0, none⟩) (by show wC.heap.size < _; omega)).trans g0
  replace g1 := (hbwD6.cell (p := ⟨wC.heap.size, 1, none⟩) (by show wC.heap.size < _; omega)).trans g1
  replace g2 := (hbwD6.cell (p := ⟨wC.heap.size, 2, none⟩) (by show wC.heap.size < _; omega)).trans g2
  replace k0 := (hbwD6.cell (p := ⟨wD1.heap.size, 0, none⟩) (by show wD1.heap.size < _; omega)).trans k0
  replace k1 := (hbwD6.cell (p := ⟨wD1.heap.size, 1, none⟩) (by show wD1.heap.size < _; omega)).trans k1
  replace m0 := (hbwD6.cell (p := ⟨wD3.heap.size, 0, none⟩) (by show wD3.heap.size < _; omega)).trans m0
  replace m1 := (hbwD6.cell (p := ⟨wD3.heap.size, 1, none⟩) (by show wD3.heap.size < _; omega)).trans m1
  have hl0wD6 : w.heap.size + 1 < wD6.heap.size := by omega
  replace l7 : b7 < wD6.heap.size := by omega
  replace m14 : wC.heap.size < wD6.heap.size := by omega
  replace m15 : wD1.heap.size < wD6.heap.size := by omega
  replace m16 : wD3.heap.size < wD6.heap.size := by omega
  have hBwD6 : Below w.heap.size w wD6 := btS hBwD5 (by omega) hbwD6
  go_wp2_with fail
  exact sums_t12 r x0 x1 lo _ n cc gs w HX h0 hn hl1 hl bx0 bx1 wD6 hBwD6 a0 a1 ha0 ha1 ha2 HE HS hl0wD6 b7 l7 q0 q1 q2 q3 q4 q5 q6 q7 q8 q9 s0 s1 c70 c71

noncomputable def sumsTail3 : Code := dropC 3 (bodyC Try.f13)
set_option maxRecDepth 100000 in
set_option maxHeartbeats 4000000 in
theorem sums_t3 {z0 z2 z4 z6 z9 z10 z11 z12 z13 z14 z15 z16 z17 z18 z19 z20 z21 z22 z23 z24 z25 z26 z27 z28 z29 z30 z31 z32 z33 z34 z35 z36 z37 z38 z39 z40 z41 z42 z43 z44 z45 z46 z47 z48 z49 z50 z51 z52 z53 z54 z55 z56 z57 z58 z59 z60 z61 z62 z63 z64 z65 z66 z67 z68 z69 z70 z71 z72 z73 z74 z75 z76 z77 z78 z79 z80 z81 z82 z83 z84 z85 z86 z87 z88 z89 z90 z91 z92 z93 z94 z95 z96 z97 z98 z99 z100 z101 z102 z103 z104 z105 z106 z107 z108 z109 z110 z111 z112 z113 z114 z115 z116 z117 z118 z119 z120 z121 z122 z123 z124 z125 z126 z127 z128 z129 z130 z131 z132 z133 z134 z135 z136 z137 z138 z139 z140 z141 z142 z143 z144 z145 z146 z147 z148 z149 z150 z151 z152 z153 z154 z155 z156 z157 z158 z159 z160 z161 z162 z163 z164 z165 z166 z167 z168 z169 z170 z171 z172 z173 z174 z175 z176 z177 z178 z179 z180 z181 z182 z183 z184 z185 z186 z187 z188 z189 z190 z191 z192 z193 z194 z195 z196 z197 z198 z199 z200 z201 z202 z203 z204 z205 z206 z207 z208 z209 z210 z211 z212 z213 z214 z215 z216 z217 z218 z219 z220 z221 z222 z223 z224 z225 z226 z227 z228 z229 z230 z231 z232 z233 z234 z235 z236 z237 z238 z239 z240 z241 z242 z243 z244 z245 z246 z247 z248 z249 z250 z251 z252 z253 z254 z255 z256 z257 z258 z259 z260 z261 z262 z263 z264 z265 z266 z267 z268 z269 z270 z271 z272 z273 z274 z275 z276 z277 z278 z279 z280 z281 z282 : Value} (r : TR) (x0 x1 : Int) (lo : Nat) (A : Option Addr) (n cc : Nat) (gs : List Gp) (w : World) (HX : Aside (gpL.at w lo A gs)) (h0 : A = none → n = 0 ∧ cc = 0) (hn : Aside (gs.length = n)) (hl1 : 1 ≤ n) (hl : n ≤ 30) (bx0 : 0 ≤ x0 ∧ x0 ≤ 65535) (bx1 : 0 ≤ x1 ∧ x1 ≤ 65535) (wB : World) (hBA : Below w.heap.size w wB) (er y0 y1 : Int) (HE : Aside (errG r gs = er)) (HS : Aside ((if er = 0 then sumR (gs.map (giveR r)) else R.d) = ⟨y0, y1⟩)) (hl0 : w.heap.size + 1 < wB.heap.size) (b7 : Nat) (l7 : b7 < wB.heap.size) (q0 : wB.cell? ⟨w.heap.size, 0, none⟩ = some (.int .i64 r.frost)) (q1 : wB.cell? ⟨w.heap.size, 1, none⟩ = some (.int .i64 r.thaw)) (q2 : wB.cell? ⟨w.heap.size, 2, none⟩ = some (.int .i64 r.gain)) (q3 : wB.cell? ⟨w.heap.size, 3, none⟩ = some (.int .i64 r.full)) (q4 : wB.cell? ⟨w.heap.size, 4, none⟩ = some (.int .i64 r.ice)) (q5 : wB.cell? ⟨w.heap.size, 5, none⟩ = some (.int .i64 r.most)) (q6 : wB.cell? ⟨w.heap.size, 6, none⟩ = some (.int .i64 r.melt)) (q7 : wB.cell? ⟨w.heap.size, 7, none⟩ = some (.int .i64 r.rlow)) (q8 : wB.cell? ⟨w.heap.size, 8, none⟩ = some (.int .i64 r.rhigh)) (q9 : wB.cell? ⟨w.heap.size, 9, none⟩ = some (.int .i64 r.pull)) (s0 : wB.cell? ⟨w.heap.size + 1, 0, none⟩ = some (.int .u16 x0)) (s1 : wB.cell? ⟨w.heap.size + 1, 1, none⟩ = some (.int .u16 x1)) (c70 : wB.cell? ⟨b7, 0, none⟩ = some (.int .i64 y0)) (c71 : wB.cell? ⟨b7, 1, none⟩ = some (.int .i64 y1)) :
    Code.wp Try.prog sumsTail3 (bodyPost Try.prog Try.f13 fun e w' => e = .returned (.bool true) ∧ Below w.heap.size w w') ⟨List.toArray (z0 :: .slice A n cc :: z2 :: .pointer (some ⟨w.heap.size, 0, none⟩) :: z4 :: .pointer (some ⟨w.heap.size + 1, 0, none⟩) :: z6 :: .pointer (some ⟨b7, 0, none⟩) :: .int .i64 er :: z9 :: z10 :: z11 :: z12 :: z13 :: z14 :: z15 :: z16 :: z17 :: z18 :: z19 :: z20 :: z21 :: z22 :: z23 :: z24 :: z25 :: z26 :: z27 :: z28 :: z29 :: z30 :: z31 :: z32 :: z33 :: z34 :: z35 :: z36 :: z37 :: z38 :: z39 :: z40 :: z41 :: z42 :: z43 :: z44 :: z45 :: z46 :: z47 :: z48 :: z49 :: z50 :: z51 :: z52 :: z53 :: z54 :: z55 :: z56 :: z57 :: z58 :: z59 :: z60 :: z61 :: z62 :: z63 :: z64 :: z65 :: z66 :: z67 :: z68 :: z69 :: z70 :: z71 :: z72 :: z73 :: z74 :: z75 :: z76 :: z77 :: z78 :: z79 :: z80 :: z81 :: z82 :: z83 :: z84 :: z85 :: z86 :: z87 :: z88 :: z89 :: z90 :: z91 :: z92 :: z93 :: z94 :: z95 :: z96 :: z97 :: z98 :: z99 :: z100 :: z101 :: z102 :: z103 :: z104 :: z105 :: z106 :: z107 :: z108 :: z109 :: z110 :: z111 :: z112 :: z113 :: z114 :: z115 :: z116 :: z117 :: z118 :: z119 :: z120 :: z121 :: z122 :: z123 :: z124 :: z125 :: z126 :: z127 :: z128 :: z129 :: z130 :: z131 :: z132 :: z133 :: z134 :: z135 :: z136 :: z137 :: z138 :: z139 :: z140 :: z141 :: z142 :: z143 :: z144 :: z145 :: z146 :: z147 :: z148 :: z149 :: z150 :: z151 :: z152 :: z153 :: z154 :: z155 :: z156 :: z157 :: z158 :: z159 :: z160 :: z161 :: z162 :: z163 :: z164 :: z165 :: z166 :: z167 :: z168 :: z169 :: z170 :: z171 :: z172 :: z173 :: z174 :: z175 :: z176 :: z177 :: z178 :: z179 :: z180 :: z181 :: z182 :: z183 :: z184 :: z185 :: z186 :: z187 :: z188 :: z189 :: z190 :: z191 :: z192 :: z193 :: z194 :: z195 :: z196 :: z197 :: z198 :: z199 :: z200 :: z201 :: z202 :: z203 :: z204 :: z205 :: z206 :: z207 :: z208 :: z209 :: z210 :: z211 :: z212 :: z213 :: z214 :: z215 :: z216 :: z217 :: z218 :: z219 :: z220 :: z221 :: z222 :: z223 :: z224 :: z225 :: z226 :: z227 :: z228 :: z229 :: z230 :: z231 :: z232 :: z233 :: z234 :: z235 :: z236 :: z237 :: z238 :: z239 :: z240 :: z241 :: z242 :: z243 :: z244 :: z245 :: z246 :: z247 :: z248 :: z249 :: z250 :: z251 :: z252 :: z253 :: z254 :: z255 :: z256 :: z257 :: z258 :: z259 :: z260 :: z261 :: z262 :: z263 :: z264 :: z265 :: z266 :: z267 :: z268 :: z269 :: z270 :: z271 :: z272 :: z273 :: z274 :: z275 :: z276 :: z277 :: z278 :: z279 :: z280 :: z281 :: z282 :: []), []⟩ wB := by
  have hR : sumsTail6 = dropC 3 sumsTail3 := (dropC_add 3 3 _).symm
  refine wp_tail 3 hR ?_
  conv => arg 2; simp only [sumsTail3, bodyC, Try.f13, Option.getD_some, dropC, mkC]
  have hkn := fun (W : World) => known_any W
  have hsz := hBA.size
  by_cases he : er = 0
  · subst he
    have hs := HS.out
    rw [if_pos rfl] at hs
    have HS2 : Aside (sumR (gs.map (giveR r)) = ⟨y0, y1⟩) := hs
    obtain ⟨hok, h60, hall⟩ := errG_parts HE.out
    have hr := (okRules_iff r).1 hok
    have hsb := fun k => sum_bd hr (gs.take k) (fun g hg => hall g (List.mem_of_mem_take hg))
    have hbd := sum_bd hr gs hall
    rw [hs] at hbd
    have ha0 : 0 ≤ y0 := hbd.1
    have ha1 : y0 ≤ y1 := hbd.2.1
    have ha2 : y1 ≤ 606000000000 := by have hq : y1 ≤ 10100000000 * (gs.length : Int) := hbd.2.2; rw [hn.out] at hq; omega
    have HSB := Lib.hid hsb
    have HALL := Lib.hid hall
    have hRV : rV r = .agg #[.int .i64 r.frost, .int .i64 r.thaw, .int .i64 r.gain, .int .i64 r.full, .int .i64 r.ice, .int .i64 r.most, .int .i64 r.melt, .int .i64 r.rlow, .int .i64 r.rhigh, .int .i64 r.pull] := rfl
    clear hs hbd hsb hall
    go_wp2_with fail
    go_loopg [9, 10, 11] (n) (fun gg lw hg ii wr => ∃ k : Nat, k ≤ n ∧ n - k ≤ gg ∧ ii = .int .i64 k ∧ lw = .int .i64 (sumR ((gs.take k).map (giveR r))).lo ∧ hg = .int .i64 (sumR ((gs.take k).map (giveR r))).hi ∧ Aside (Below wB.heap.size wB wr))
    case atStart => exact ⟨0, Nat.zero_le _, Nat.le_refl _, rfl, rfl, rfl, Below.refl _ _⟩
    case round =>
      obtain ⟨k, hk, hg, rfl, rfl, rfl, hB⟩ := hrel
      obtain ⟨wL, hWL⟩ : ∃ X, X = wr := ⟨_, rfl⟩
      subst hWL
      have hzL := hB.out.size
      have hBL : Below w.heap.size w wL := btS hBA (Nat.le_refl _) hB.out
      replace q0 := (hB.out.cell (p := ⟨w.heap.size, 0, none⟩) (by show w.heap.size < _; omega)).trans q0
      replace q1 := (hB.out.cell (p := ⟨w.heap.size, 1, none⟩) (by show w.heap.size < _; omega)).trans q1
      replace q2 := (hB.out.cell (p := ⟨w.heap.size, 2, none⟩) (by show w.heap.size < _; omega)).trans q2
      replace q3 := (hB.out.cell (p := ⟨w.heap.size, 3, none⟩) (by show w.heap.size < _; omega)).trans q3
      replace q4 := (hB.out.cell (p := ⟨w.heap.size, 4, none⟩) (by show w.heap.size < _; omega)).trans q4
      replace q5 := (hB.out.cell (p := ⟨w.heap.size, 5, none⟩) (by show w.heap.size < _; omega)).trans q5
      replace q6 := (hB.out.cell (p := ⟨w.heap.size, 6, none⟩) (by show w.heap.size < _; omega)).trans q6
      replace q7 := (hB.out.cell (p := ⟨w.heap.size, 7, none⟩) (by show w.heap.size < _; omega)).trans q7
      replace q8 := (hB.out.cell (p := ⟨w.heap.size, 8, none⟩) (by show w.heap.size < _; omega)).trans q8
      replace q9 := (hB.out.cell (p := ⟨w.heap.size, 9, none⟩) (by show w.heap.size < _; omega)).trans q9
      replace s0 := (hB.out.cell (p := ⟨w.heap.size + 1, 0, none⟩) (by show w.heap.size + 1 < _; omega)).trans s0
      replace s1 := (hB.out.cell (p := ⟨w.heap.size + 1, 1, none⟩) (by show w.heap.size + 1 < _; omega)).trans s1
      replace c70 := (hB.out.cell (p := ⟨b7, 0, none⟩) (by show b7 < _; omega)).trans c70
      replace c71 := (hB.out.cell (p := ⟨b7, 1, none⟩) (by show b7 < _; omega)).trans c71
      by_cases hlt : k < n
      · obtain ⟨bb, oo, hAA, hlo, hlb, hcs⟩ := HX.out (by have := hn.out; omega)
        subst hAA
        have e0 := (hBL.cell (p := ⟨bb, oo + k * 3 + 0, none⟩) hlb).trans (hcs k 0 (by have := hn.out; omega) (by show 0 < 3; omega))
        have e1 := (hBL.cell (p := ⟨bb, oo + k * 3 + 1, none⟩) hlb).trans (hcs k 1 (by have := hn.out; omega) (by show 1 < 3; omega))
        have e2 := (hBL.cell (p := ⟨bb, oo + k * 3 + 2, none⟩) hlb).trans (hcs k 2 (by have := hn.out; omega) (by show 2 < 3; omega))
        have hk2 : k < gs.length := by have := hn.out; omega
        have htk : (gs.take (k + 1)).map (giveR r) = (gs.take k).map (giveR r) ++ [giveR r (gs[k]?.getD gpL.d)] := by
          rw [List.take_succ_eq_append_getElem hk2, List.map_append, List.getElem?_eq_getElem hk2]; rfl
        have hsn : sumR ((gs.take (k + 1)).map (giveR r)) = ⟨(sumR ((gs.take k).map (giveR r))).lo + (giveR r (gs[k]?.getD gpL.d)).lo, (sumR ((gs.take k).map (giveR r))).hi + (giveR r (gs[k]?.getD gpL.d)).hi⟩ := by rw [htk, sumR_app]
        have hgm : gs[k]?.getD gpL.d ∈ gs := by rw [List.getElem?_eq_getElem hk2]; exact List.getElem_mem _
        have hgok := HALL.out _ hgm
        have bs := HSB.out k
        have hlen : (gs.take k).length ≤ 60 := by rw [List.length_take]; omega
        generalize gs[k]?.getD gpL.d = gg at e0 e1 e2 hgok hsn
        obtain ⟨gt, gl, gh⟩ := gg
        replace e0 : wL.cell? ⟨bb, oo + k * 3, none⟩ = some (.int .i64 gt) := e0
        replace e1 : wL.cell? ⟨bb, oo + k * 3 + 1, none⟩ = some (.int .i64 gl) := e1
        replace e2 : wL.cell? ⟨bb, oo + k * 3 + 2, none⟩ = some (.int .i64 gh) := e2
        have bg := giveR_ok hr hgok
        have hG1 := fun A' (W : World) (h : gpL.at W 0 A' [⟨gt, gl, gh⟩]) => gives_any r 0 A' 1 1 [⟨gt, gl, gh⟩] W h rfl (by unfold maxLen; omega)
        rw [errG_one hok hgok, if_pos rfl, List.map_cons, List.map_nil, sumR_one, hRV] at hG1
        unfold GivesPost at hG1
        generalize giveR r ⟨gt, gl, gh⟩ = RG at hG1 bg hsn
        obtain ⟨rg0, rg1⟩ := RG
        simp only at hG1 bg hsn
        generalize sumR ((gs.take k).map (giveR r)) = SK at bs hsn ⊢
        obtain ⟨sk0, sk1⟩ := SK
        simp only at bs hsn ⊢
        have Hsn := Lib.hid hsn
        have hltz : (k : Int) < (n : Int) := by omega
        have hi0 : (0 : Int) ≤ (k : Int) := Int.natCast_nonneg _
        have hlbr : bb < wL.heap.size := by have := hBL.size; omega
        have ws0 : IntKind.i64.wrap (sk0 + rg0) = sk0 + rg0 := by rw [IntKind.wrap_i64]; omega
        have ws1 : IntKind.i64.wrap (sk1 + rg1) = sk1 + rg1 := by rw [IntKind.wrap_i64]; omega
        have nl1 : ¬ rg0 < 0 := by omega
        have nl2 : ¬ rg1 < rg0 := by omega
        have nl3 : ¬ 10000000000000 < rg1 := by omega
        clear hsn hcs htk hgm hgok hlo
        go_upto_region 10 with (fail)
        go_cut [12, 13] from 52 to 94 (fun v12 v13 wx => ∃ b12 : Nat, v12 = .pointer (some ⟨b12, 0, none⟩) ∧ v13 = .int .i64 0 ∧ b12 < wx.heap.size ∧ wx.cell? ⟨b12, 0, none⟩ = some (.int .i64 rg0) ∧ wx.cell? ⟨b12, 1, none⟩ = some (.int .i64 rg1) ∧ Aside (Below wL.heap.size wL wx))
        case first =>
          have hAll : Aside (∀ W, Below wL.heap.size wL W → (Below wL.heap.size wL W ∧ W.cell? ⟨w.heap.size, 0, none⟩ = some (.int .i64 r.frost) ∧ W.cell? ⟨w.heap.size, 1, none⟩ = some (.int .i64 r.thaw) ∧ W.cell? ⟨w.heap.size, 2, none⟩ = some (.int .i64 r.gain) ∧ W.cell? ⟨w.heap.size, 3, none⟩ = some (.int .i64 r.full) ∧ W.cell? ⟨w.heap.size, 4, none⟩ = some (.int .i64 r.ice) ∧ W.cell? ⟨w.heap.size, 5, none⟩ = some (.int .i64 r.most) ∧ W.cell? ⟨w.heap.size, 6, none⟩ = some (.int .i64 r.melt) ∧ W.cell? ⟨w.heap.size, 7, none⟩ = some (.int .i64 r.rlow) ∧ W.cell? ⟨w.heap.size, 8, none⟩ = some (.int .i64 r.rhigh) ∧ W.cell? ⟨w.heap.size, 9, none⟩ = some (.int .i64 r.pull) ∧ W.cell? ⟨w.heap.size + 1, 0, none⟩ = some (.int .u16 x0) ∧ W.cell? ⟨w.heap.size + 1, 1, none⟩ = some (.int .u16 x1) ∧ W.cell? ⟨bb, oo + k * 3, none⟩ = some (.int .i64 gt) ∧ W.cell? ⟨bb, oo + k * 3 + 1, none⟩ = some (.int .i64 gl) ∧ W.cell? ⟨bb, oo + k * 3 + 2, none⟩ = some (.int .i64 gh))) := fun W h => ⟨h, (h.cell (p := ⟨w.heap.size, 0, none⟩) (by show w.heap.size < _; omega)).trans q0, (h.cell (p := ⟨w.heap.size, 1, none⟩) (by show w.heap.size < _; omega)).trans q1, (h.cell (p := ⟨w.heap.size, 2, none⟩) (by show w.heap.size < _; omega)).trans q2, (h.cell (p := ⟨w.heap.size, 3, none⟩) (by show w.heap.size < _; omega)).trans q3, (h.cell (p := ⟨w.heap.size, 4, none⟩) (by show w.heap.size < _; omega)).trans q4, (h.cell (p := ⟨w.heap.size, 5, none⟩) (by show w.heap.size < _; omega)).trans q5, (h.cell (p := ⟨w.heap.size, 6, none⟩) (by show w.heap.size < _; omega)).trans q6, (h.cell (p := ⟨w.heap.size, 7, none⟩) (by show w.heap.size < _; omega)).trans q7, (h.cell (p := ⟨w.heap.size, 8, none⟩) (by show w.heap.size < _; omega)).trans q8, (h.cell (p := ⟨w.heap.size, 9, none⟩) (by show w.heap.size < _; omega)).trans q9, (h.cell (p := ⟨w.heap.size + 1, 0, none⟩) (by show w.heap.size + 1 < _; omega)).trans s0, (h.cell (p := ⟨w.heap.size + 1, 1, none⟩) (by show w.heap.size + 1 < _; omega)).trans s1, (h.cell (p := ⟨bb, oo + k * 3, none⟩) (by show bb < _; omega)).trans e0, (h.cell (p := ⟨bb, oo + k * 3 + 1, none⟩) (by show bb < _; omega)).trans e1, (h.cell (p := ⟨bb, oo + k * 3 + 2, none⟩) (by show bb < _; omega)).trans e2⟩
          refine wp_region_held_drew (S := fun W => Below wL.heap.size wL W ∧ W.cell? ⟨w.heap.size, 0, none⟩ = some (.int .i64 r.frost) ∧ W.cell? ⟨w.heap.size, 1, none⟩ = some (.int .i64 r.thaw) ∧ W.cell? ⟨w.heap.size, 2, none⟩ = some (.int .i64 r.gain) ∧ W.cell? ⟨w.heap.size, 3, none⟩ = some (.int .i64 r.full) ∧ W.cell? ⟨w.heap.size, 4, none⟩ = some (.int .i64 r.ice) ∧ W.cell? ⟨w.heap.size, 5, none⟩ = some (.int .i64 r.most) ∧ W.cell? ⟨w.heap.size, 6, none⟩ = some (.int .i64 r.melt) ∧ W.cell? ⟨w.heap.size, 7, none⟩ = some (.int .i64 r.rlow) ∧ W.cell? ⟨w.heap.size, 8, none⟩ = some (.int .i64 r.rhigh) ∧ W.cell? ⟨w.heap.size, 9, none⟩ = some (.int .i64 r.pull) ∧ W.cell? ⟨w.heap.size + 1, 0, none⟩ = some (.int .u16 x0) ∧ W.cell? ⟨w.heap.size + 1, 1, none⟩ = some (.int .u16 x1) ∧ W.cell? ⟨bb, oo + k * 3, none⟩ = some (.int .i64 gt) ∧ W.cell? ⟨bb, oo + k * 3 + 1, none⟩ = some (.int .i64 gl) ∧ W.cell? ⟨bb, oo + k * 3 + 2, none⟩ = some (.int .i64 gh)) (by kernel_rfl) (hAll.out _ ((Below.refl _ _).drew)) (fun hS0 => ?_)
          refine wpAnyH_take (i := 0) (v := ?_) rfl (by kernel_rfl) (by kernel_rfl) (by kernel_rfl) (fun _ _ _ h => h) (Or.inl ⟨by rfl, ?_⟩) hS0 ?_
          rotate_left
          · (intro W hSw; (try dsimp only at hSw); go_split_ands; go_simp; (try with_reducible rfl))
          (try go_simp)
          refine wpAnyH_take (i := 1) (v := ?_) rfl (by kernel_rfl) (by kernel_rfl) (by kernel_rfl) (fun _ _ _ h => h) (Or.inl ⟨by rfl, ?_⟩) hS0 ?_
          rotate_left
          · (intro W hSw; (try dsimp only at hSw); go_split_ands; go_simp; (try with_reducible rfl))
          (try go_simp)
          refine wpAnyH_take (i := 2) (v := ?_) rfl (by kernel_rfl) (by kernel_rfl) (by kernel_rfl) (fun _ _ _ h => h) (Or.inl ⟨by rfl, ?_⟩) hS0 ?_
          rotate_left
          · (intro W hSw; (try dsimp only at hSw); go_split_ands; go_simp; (try with_reducible rfl))
          (try go_simp)
          refine wpAnyH_take (i := 3) (v := ?_) rfl (by kernel_rfl) (by kernel_rfl) (by kernel_rfl) (fun _ _ _ h => h) (Or.inl ⟨by rfl, ?_⟩) hS0 ?_
          rotate_left
          · (intro W hSw; (try dsimp only at hSw); go_split_ands; go_simp; (try with_reducible rfl))
          (try go_simp)
          refine wpAnyH_take (i := 4) (v := ?_) rfl (by kernel_rfl) (by kernel_rfl) (by kernel_rfl) (fun _ _ _ h => h) (Or.inl ⟨by rfl, ?_⟩) hS0 ?_
          rotate_left
          · (intro W hSw; (try dsimp only at hSw); go_split_ands; go_simp; (try with_reducible rfl))
          (try go_simp)
          refine wpAnyH_ready (rs := [5, 10]) (by kernel_rfl) (by simp) ?_
          refine (AllReadyH.cons rfl (fun K hK => ?_) (AllReadyH.cons rfl (fun K hK => ?_) AllReadyH.nil))
          · skip
            go_simp
            refine hK.out _ _ (hAll.out _ (by repeat (first | (with_reducible assumption) | exact Below.refl _ _ | (with_reducible refine Below.alloc ?_ (by first | omega | (simp <;> omega)) _) | (with_reducible refine Below.setCell ?_ (by first | omega | (simp <;> omega)) _) | (with_reducible refine Below.drew ?_)))) (fun hS1 => ?_)
            clear hK K
            (try go_simp)
            refine wpAnyH_ready (rs := [6, 10]) (by kernel_rfl) (by simp) ?_
            refine (AllReadyH.cons rfl (fun K hK => ?_) (AllReadyH.cons rfl (fun K hK => ?_) AllReadyH.nil))
            · skip
              go_simp
              go_wp2_with (go_at_call 47; refine Calls.mono (hG1 _ _ (gp_at1 (b := wL.heap.size) (by simp [go_sem]) (by simp [go_sem]) (by simp [go_sem]) (by first | (simp; done) | (simp; omega)))) ?_; rintro e w9 ⟨rfl, hb9⟩)
              have hTw9 : Below wL.heap.size wL w9 := btS (show Below wL.heap.size wL _ from (by repeat (first | (with_reducible assumption) | exact Below.refl _ _ | (with_reducible refine Below.alloc ?_ (by first | omega | (simp <;> omega)) _) | (with_reducible refine Below.setCell ?_ (by first | omega | (simp <;> omega)) _) | (with_reducible refine Below.drew ?_)))) (Nat.le_refl _) hb9
              have hsw9 := hTw9.size
              have hzw9 := hb9.size
              (try simp only [World.size_alloc, World.size_drew, World.size_setCell] at hzw9)
              have cbsw9_0 : w9.cell? ⟨wL.heap.size, 0, none⟩ = some (.int .i64 gt) := (hb9.cell (p := ⟨wL.heap.size, 0, none⟩) (by show wL.heap.size < _; first | omega | (simp; done) | (simp; omega))).trans (by first | exact cnone_0 | (simp [go_sem]))
              have fbsw9_0 : w9.frozen? ⟨wL.heap.size, 0, none⟩ = false := (hb9.frozen (p := ⟨wL.heap.size, 0, none⟩) (by show wL.heap.size < _; first | omega | (simp; done) | (simp; omega))).trans (by first | exact fnone_0 | (simp [go_sem]))
              have cbsw9_1 : w9.cell? ⟨wL.heap.size, 1, none⟩ = some (.int .i64 gl) := (hb9.cell (p := ⟨wL.heap.size, 1, none⟩) (by show wL.heap.size < _; first | omega | (simp; done) | (simp; omega))).trans (by first | exact cnone_1 | (simp [go_sem]))
              have fbsw9_1 : w9.frozen? ⟨wL.heap.size, 1, none⟩ = false := (hb9.frozen (p := ⟨wL.heap.size, 1, none⟩) (by show wL.heap.size < _; first | omega | (simp; done) | (simp; omega))).trans (by first | exact fnone_1 | (simp [go_sem]))
              have cbsw9_2 : w9.cell? ⟨wL.heap.size, 2, none⟩ = some (.int .i64 gh) := (hb9.cell (p := ⟨wL.heap.size, 2, none⟩) (by show wL.heap.size < _; first | omega | (simp; done) | (simp; omega))).trans (by first | exact cnone_2 | (simp [go_sem]))
              have fbsw9_2 : w9.frozen? ⟨wL.heap.size, 2, none⟩ = false := (hb9.frozen (p := ⟨wL.heap.size, 2, none⟩) (by show wL.heap.size < _; first | omega | (simp; done) | (simp; omega))).trans (by first | exact fnone_2 | (simp [go_sem]))
              have lbsw9 : wL.heap.size < w9.heap.size := by first | omega | (simp at hzw9; omega)
              refine hK.out _ _ (hAll.out _ hTw9) (fun hS2 => ?_)
              clear hK K
              (try go_simp)
              refine wpAnyH_take (i := 7) (v := ?_) rfl (by kernel_rfl) (by kernel_rfl) (by kernel_rfl) (fun _ _ _ h => h) (Or.inl ⟨by rfl, ?_⟩) hS2 ?_
              rotate_left
              · (intro W hSw; (try dsimp only at hSw); go_split_ands; go_simp; (try with_reducible rfl))
              (try go_simp)
              refine wpAnyH_take (i := 8) (v := ?_) rfl (by kernel_rfl) (by kernel_rfl) (by kernel_rfl) (fun _ _ _ h => h) (Or.inl ⟨by rfl, ?_⟩) hS2 ?_
              rotate_left
              · (intro W hSw; (try dsimp only at hSw); go_split_ands; go_simp; (try with_reducible rfl))
              (try go_simp)
              refine wpAnyH_take (i := 9) (v := ?_) rfl (by kernel_rfl) (by kernel_rfl) (by kernel_rfl) (fun _ _ _ h => h) (Or.inl ⟨by rfl, ?_⟩) hS2 ?_
              rotate_left
              · (intro W hSw; (try dsimp only at hSw); go_split_ands; go_simp; (try with_reducible rfl))
              (try go_simp)
              refine wpAnyH_ready (rs := [10]) (by kernel_rfl) (by simp) ?_
              refine (AllReadyH.cons rfl (fun K hK => ?_) AllReadyH.nil)
              go_simp
              refine hK.out _ _ (hAll.out _ (by repeat (first | (with_reducible assumption) | exact Below.refl _ _ | (with_reducible refine Below.alloc ?_ (by first | omega | (simp <;> omega)) _) | (with_reducible refine Below.setCell ?_ (by first | omega | (simp <;> omega)) _) | (with_reducible refine Below.drew ?_)))) (fun hS3 => ?_)
              clear hK K
              (try go_simp)
              refine wpAnyH_ready (rs := [11]) (by kernel_rfl) (by simp) ?_
              refine (AllReadyH.cons rfl (fun K hK => ?_) AllReadyH.nil)
              go_simp
              refine hK.out _ _ (hAll.out _ (by repeat (first | (with_reducible assumption) | exact Below.refl _ _ | (with_reducible refine Below.alloc ?_ (by first | omega | (simp <;> omega)) _) | (with_reducible refine Below.setCell ?_ (by first | omega | (simp <;> omega)) _) | (with_reducible refine Below.drew ?_)))) (fun hS4 => ?_)
              clear hK K
              (try go_simp)
              refine wpAnyH_take (i := 12) (v := ?_) rfl (by kernel_rfl) (by kernel_rfl) (by kernel_rfl) (fun _ _ _ h => h) (Or.inl ⟨by rfl, ?_⟩) hS4 ?_
              rotate_left
              · (intro W hSw; (try dsimp only at hSw); go_split_ands; go_simp; (try with_reducible rfl))
              (try go_simp)
              refine wpAnyH_done (by kernel_rfl) ?_ _
              (try go_simp)
              go_wp2_with fail
              go_meet
              exact ⟨_, rfl, rfl, by first | omega | (simp; done) | (simp; omega), by simp [go_sem], by simp [go_sem], (show Below _ _ _ from (by repeat (first | (with_reducible assumption) | exact Below.refl _ _ | (with_reducible refine Below.alloc ?_ (by first | omega | (simp <;> omega)) _) | (with_reducible refine Below.setCell ?_ (by first | omega | (simp <;> omega)) _) | (with_reducible refine Below.drew ?_))))⟩
            · skip
              go_simp
              refine hK.out _ _ (hAll.out _ (by repeat (first | (with_reducible assumption) | exact Below.refl _ _ | (with_reducible refine Below.alloc ?_ (by first | omega | (simp <;> omega)) _) | (with_reducible refine Below.setCell ?_ (by first | omega | (simp <;> omega)) _) | (with_reducible refine Below.drew ?_)))) (fun hS5 => ?_)
              clear hK K
              (try go_simp)
              refine wpAnyH_ready (rs := [6]) (by kernel_rfl) (by simp) ?_
              refine (AllReadyH.cons rfl (fun K hK => ?_) AllReadyH.nil)
              go_simp
              go_wp2_with (go_at_call 47; refine Calls.mono (hG1 _ _ (gp_at1 (b := wL.heap.size) (by simp [go_sem]) (by simp [go_sem]) (by simp [go_sem]) (by first | (simp; done) | (simp; omega)))) ?_; rintro e w9 ⟨rfl, hb9⟩)
              have hTw9 : Below wL.heap.size wL w9 := btS (show Below wL.heap.size wL _ from (by repeat (first | (with_reducible assumption) | exact Below.refl _ _ | (with_reducible refine Below.alloc ?_ (by first | omega | (simp <;> omega)) _) | (with_reducible refine Below.setCell ?_ (by first | omega | (simp <;> omega)) _) | (with_reducible refine Below.drew ?_)))) (Nat.le_refl _) hb9
              have hsw9 := hTw9.size
              have hzw9 := hb9.size
              (try simp only [World.size_alloc, World.size_drew, World.size_setCell] at hzw9)
              have cbsw9_0 : w9.cell? ⟨wL.heap.size, 0, none⟩ = some (.int .i64 gt) := (hb9.cell (p := ⟨wL.heap.size, 0, none⟩) (by show wL.heap.size < _; first | omega | (simp; done) | (simp; omega))).trans (by first | exact cnone_0 | (simp [go_sem]))
              have fbsw9_0 : w9.frozen? ⟨wL.heap.size, 0, none⟩ = false := (hb9.frozen (p := ⟨wL.heap.size, 0, none⟩) (by show wL.heap.size < _; first | omega | (simp; done) | (simp; omega))).trans (by first | exact fnone_0 | (simp [go_sem]))
              have cbsw9_1 : w9.cell? ⟨wL.heap.size, 1, none⟩ = some (.int .i64 gl) := (hb9.cell (p := ⟨wL.heap.size, 1, none⟩) (by show wL.heap.size < _; first | omega | (simp; done) | (simp; omega))).trans (by first | exact cnone_1 | (simp [go_sem]))
              have fbsw9_1 : w9.frozen? ⟨wL.heap.size, 1, none⟩ = false := (hb9.frozen (p := ⟨wL.heap.size, 1, none⟩) (by show wL.heap.size < _; first | omega | (simp; done) | (simp; omega))).trans (by first | exact fnone_1 | (simp [go_sem]))
              have cbsw9_2 : w9.cell? ⟨wL.heap.size, 2, none⟩ = some (.int .i64 gh) := (hb9.cell (p := ⟨wL.heap.size, 2, none⟩) (by show wL.heap.size < _; first | omega | (simp; done) | (simp; omega))).trans (by first | exact cnone_2 | (simp [go_sem]))
              have fbsw9_2 : w9.frozen? ⟨wL.heap.size, 2, none⟩ = false := (hb9.frozen (p := ⟨wL.heap.size, 2, none⟩) (by show wL.heap.size < _; first | omega | (simp; done) | (simp; omega))).trans (by first | exact fnone_2 | (simp [go_sem]))
              have lbsw9 : wL.heap.size < w9.heap.size := by first | omega | (simp at hzw9; omega)
              have cb12w9_0 : w9.cell? ⟨wL.heap.size + 1, 0, none⟩ = some (.int .i64 0) := (hb9.cell (p := ⟨wL.heap.size + 1, 0, none⟩) (by show wL.heap.size + 1 < _; first | omega | (simp; done) | (simp; omega))).trans (by first | exact cnone_0 | (simp [go_sem]))
              have fb12w9_0 : w9.frozen? ⟨wL.heap.size + 1, 0, none⟩ = false := (hb9.frozen (p := ⟨wL.heap.size + 1, 0, none⟩) (by show wL.heap.size + 1 < _; first | omega | (simp; done) | (simp; omega))).trans (by first | exact fnone_0 | (simp [go_sem]))
              have cb12w9_1 : w9.cell? ⟨wL.heap.size + 1, 1, none⟩ = some (.int .i64 0) := (hb9.cell (p := ⟨wL.heap.size + 1, 1, none⟩) (by show wL.heap.size + 1 < _; first | omega | (simp; done) | (simp; omega))).trans (by first | exact cnone_1 | (simp [go_sem]))
              have fb12w9_1 : w9.frozen? ⟨wL.heap.size + 1, 1, none⟩ = false := (hb9.frozen (p := ⟨wL.heap.size + 1, 1, none⟩) (by show wL.heap.size + 1 < _; first | omega | (simp; done) | (simp; omega))).trans (by first | exact fnone_1 | (simp [go_sem]))
              have lb12w9 : wL.heap.size + 1 < w9.heap.size := by first | omega | (simp at hzw9; omega)
              refine hK.out _ _ (hAll.out _ hTw9) (fun hS6 => ?_)
              clear hK K
              (try go_simp)
              refine wpAnyH_take (i := 7) (v := ?_) rfl (by kernel_rfl) (by kernel_rfl) (by kernel_rfl) (fun _ _ _ h => h) (Or.inl ⟨by rfl, ?_⟩) hS6 ?_
              rotate_left
              · (intro W hSw; (try dsimp only at hSw); go_split_ands; go_simp; (try with_reducible rfl))
              (try go_simp)
              refine wpAnyH_take (i := 8) (v := ?_) rfl (by kernel_rfl) (by kernel_rfl) (by kernel_rfl) (fun _ _ _ h => h) (Or.inl ⟨by rfl, ?_⟩) hS6 ?_
              rotate_left
              · (intro W hSw; (try dsimp only at hSw); go_split_ands; go_simp; (try with_reducible rfl))
              (try go_simp)
              refine wpAnyH_take (i := 9) (v := ?_) rfl (by kernel_rfl) (by kernel_rfl) (by kernel_rfl) (fun _ _ _ h => h) (Or.inl ⟨by rfl, ?_⟩) hS6 ?_
              rotate_left
              · (intro W hSw; (try dsimp only at hSw); go_split_ands; go_simp; (try with_reducible rfl))
              (try go_simp)
              refine wpAnyH_ready (rs := [11]) (by kernel_rfl) (by simp) ?_
              refine (AllReadyH.cons rfl (fun K hK => ?_) AllReadyH.nil)
              go_simp
              refine hK.out _ _ (hAll.out _ (by repeat (first | (with_reducible assumption) | exact Below.refl _ _ | (with_reducible refine Below.alloc ?_ (by first | omega | (simp <;> omega)) _) | (with_reducible refine Below.setCell ?_ (by first | omega | (simp <;> omega)) _) | (with_reducible refine Below.drew ?_)))) (fun hS7 => ?_)
              clear hK K
              (try go_simp)
              refine wpAnyH_take (i := 12) (v := ?_) rfl (by kernel_rfl) (by kernel_rfl) (by kernel_rfl) (fun _ _ _ h => h) (Or.inl ⟨by rfl, ?_⟩) hS7 ?_
              rotate_left
              · (intro W hSw; (try dsimp only at hSw); go_split_ands; go_simp; (try with_reducible rfl))
              (try go_simp)
              refine wpAnyH_done (by kernel_rfl) ?_ _
              (try go_simp)
              go_wp2_with fail
              go_meet
              exact ⟨_, rfl, rfl, by first | omega | (simp; done) | (simp; omega), by simp [go_sem, cb12w9_0, cb12w9_1, lb12w9], by simp [go_sem, cb12w9_0, cb12w9_1, lb12w9], (show Below _ _ _ from (by repeat (first | (with_reducible assumption) | exact Below.refl _ _ | (with_reducible refine Below.alloc ?_ (by first | omega | (simp <;> omega)) _) | (with_reducible refine Below.setCell ?_ (by first | omega | (simp <;> omega)) _) | (with_reducible refine Below.drew ?_))))⟩
          · skip
            go_simp
            refine hK.out _ _ (hAll.out _ (by repeat (first | (with_reducible assumption) | exact Below.refl _ _ | (with_reducible refine Below.alloc ?_ (by first | omega | (simp <;> omega)) _) | (with_reducible refine Below.setCell ?_ (by first | omega | (simp <;> omega)) _) | (with_reducible refine Below.drew ?_)))) (fun hS8 => ?_)
            clear hK K
            (try go_simp)
            refine wpAnyH_ready (rs := [5]) (by kernel_rfl) (by simp) ?_
            refine (AllReadyH.cons rfl (fun K hK => ?_) AllReadyH.nil)
            go_simp
            refine hK.out _ _ (hAll.out _ (by repeat (first | (with_reducible assumption) | exact Below.refl _ _ | (with_reducible refine Below.alloc ?_ (by first | omega | (simp <;> omega)) _) | (with_reducible refine Below.setCell ?_ (by first | omega | (simp <;> omega)) _) | (with_reducible refine Below.drew ?_)))) (fun hS9 => ?_)
            clear hK K
            (try go_simp)
            refine wpAnyH_ready (rs := [6]) (by kernel_rfl) (by simp) ?_
            refine (AllReadyH.cons rfl (fun K hK => ?_) AllReadyH.nil)
            go_simp
            go_wp2_with (go_at_call 47; refine Calls.mono (hG1 _ _ (gp_at1 (b := wL.heap.size + 1) (by simp [go_sem]) (by simp [go_sem]) (by simp [go_sem]) (by first | (simp; done) | (simp; omega)))) ?_; rintro e w9 ⟨rfl, hb9⟩)
            have hTw9 : Below wL.heap.size wL w9 := btS (show Below wL.heap.size wL _ from (by repeat (first | (with_reducible assumption) | exact Below.refl _ _ | (with_reducible refine Below.alloc ?_ (by first | omega | (simp <;> omega)) _) | (with_reducible refine Below.setCell ?_ (by first | omega | (simp <;> omega)) _) | (with_reducible refine Below.drew ?_)))) (Nat.le_refl _) hb9
            have hsw9 := hTw9.size
            have hzw9 := hb9.size
            (try simp only [World.size_alloc, World.size_drew, World.size_setCell] at hzw9)
            have cb12w9_0 : w9.cell? ⟨wL.heap.size, 0, none⟩ = some (.int .i64 0) := (hb9.cell (p := ⟨wL.heap.size, 0, none⟩) (by show wL.heap.size < _; first | omega | (simp; done) | (simp; omega))).trans (by first | exact cnone_0 | (simp [go_sem]))
            have fb12w9_0 : w9.frozen? ⟨wL.heap.size, 0, none⟩ = false := (hb9.frozen (p := ⟨wL.heap.size, 0, none⟩) (by show wL.heap.size < _; first | omega | (simp; done) | (simp; omega))).trans (by first | exact fnone_0 | (simp [go_sem]))
            have cb12w9_1 : w9.cell? ⟨wL.heap.size, 1, none⟩ = some (.int .i64 0) := (hb9.cell (p := ⟨wL.heap.size, 1, none⟩) (by show wL.heap.size < _; first | omega | (simp; done) | (simp; omega))).trans (by first | exact cnone_1 | (simp [go_sem]))
            have fb12w9_1 : w9.frozen? ⟨wL.heap.size, 1, none⟩ = false := (hb9.frozen (p := ⟨wL.heap.size, 1, none⟩) (by show wL.heap.size < _; first | omega | (simp; done) | (simp; omega))).trans (by first | exact fnone_1 | (simp [go_sem]))
            have lb12w9 : wL.heap.size < w9.heap.size := by first | omega | (simp at hzw9; omega)
            have cbsw9_0 : w9.cell? ⟨wL.heap.size + 1, 0, none⟩ = some (.int .i64 gt) := (hb9.cell (p := ⟨wL.heap.size + 1, 0, none⟩) (by show wL.heap.size + 1 < _; first | omega | (simp; done) | (simp; omega))).trans (by first | exact cnone_0 | (simp [go_sem]))
            have fbsw9_0 : w9.frozen? ⟨wL.heap.size + 1, 0, none⟩ = false := (hb9.frozen (p := ⟨wL.heap.size + 1, 0, none⟩) (by show wL.heap.size + 1 < _; first | omega | (simp; done) | (simp; omega))).trans (by first | exact fnone_0 | (simp [go_sem]))
            have cbsw9_1 : w9.cell? ⟨wL.heap.size + 1, 1, none⟩ = some (.int .i64 gl) := (hb9.cell (p := ⟨wL.heap.size + 1, 1, none⟩) (by show wL.heap.size + 1 < _; first | omega | (simp; done) | (simp; omega))).trans (by first | exact cnone_1 | (simp [go_sem]))
            have fbsw9_1 : w9.frozen? ⟨wL.heap.size + 1, 1, none⟩ = false := (hb9.frozen (p := ⟨wL.heap.size + 1, 1, none⟩) (by show wL.heap.size + 1 < _; first | omega | (simp; done) | (simp; omega))).trans (by first | exact fnone_1 | (simp [go_sem]))
            have cbsw9_2 : w9.cell? ⟨wL.heap.size + 1, 2, none⟩ = some (.int .i64 gh) := (hb9.cell (p := ⟨wL.heap.size + 1, 2, none⟩) (by show wL.heap.size + 1 < _; first | omega | (simp; done) | (simp; omega))).trans (by first | exact cnone_2 | (simp [go_sem]))
            have fbsw9_2 : w9.frozen? ⟨wL.heap.size + 1, 2, none⟩ = false := (hb9.frozen (p := ⟨wL.heap.size + 1, 2, none⟩) (by show wL.heap.size + 1 < _; first | omega | (simp; done) | (simp; omega))).trans (by first | exact fnone_2 | (simp [go_sem]))
            have lbsw9 : wL.heap.size + 1 < w9.heap.size := by first | omega | (simp at hzw9; omega)
            refine hK.out _ _ (hAll.out _ hTw9) (fun hS10 => ?_)
            clear hK K
            (try go_simp)
            refine wpAnyH_take (i := 7) (v := ?_) rfl (by kernel_rfl) (by kernel_rfl) (by kernel_rfl) (fun _ _ _ h => h) (Or.inl ⟨by rfl, ?_⟩) hS10 ?_
            rotate_left
            · (intro W hSw; (try dsimp only at hSw); go_split_ands; go_simp; (try with_reducible rfl))
            (try go_simp)
            refine wpAnyH_take (i := 8) (v := ?_) rfl (by kernel_rfl) (by kernel_rfl) (by kernel_rfl) (fun _ _ _ h => h) (Or.inl ⟨by rfl, ?_⟩) hS10 ?_
            rotate_left
            · (intro W hSw; (try dsimp only at hSw); go_split_ands; go_simp; (try with_reducible rfl))
            (try go_simp)
            refine wpAnyH_take (i := 9) (v := ?_) rfl (by kernel_rfl) (by kernel_rfl) (by kernel_rfl) (fun _ _ _ h => h) (Or.inl ⟨by rfl, ?_⟩) hS10 ?_
            rotate_left
            · (intro W hSw; (try dsimp only at hSw); go_split_ands; go_simp; (try with_reducible rfl))
            (try go_simp)
            refine wpAnyH_ready (rs := [11]) (by kernel_rfl) (by simp) ?_
            refine (AllReadyH.cons rfl (fun K hK => ?_) AllReadyH.nil)
            go_simp
            refine hK.out _ _ (hAll.out _ (by repeat (first | (with_reducible assumption) | exact Below.refl _ _ | (with_reducible refine Below.alloc ?_ (by first | omega | (simp <;> omega)) _) | (with_reducible refine Below.setCell ?_ (by first | omega | (simp <;> omega)) _) | (with_reducible refine Below.drew ?_)))) (fun hS11 => ?_)
            clear hK K
            (try go_simp)
            refine wpAnyH_take (i := 12) (v := ?_) rfl (by kernel_rfl) (by kernel_rfl) (by kernel_rfl) (fun _ _ _ h => h) (Or.inl ⟨by rfl, ?_⟩) hS11 ?_
            rotate_left
            · (intro W hSw; (try dsimp only at hSw); go_split_ands; go_simp; (try with_reducible rfl))
            (try go_simp)
            refine wpAnyH_done (by kernel_rfl) ?_ _
            (try go_simp)
            go_wp2_with fail
            go_meet
            exact ⟨_, rfl, rfl, by first | omega | (simp; done) | (simp; omega), by simp [go_sem, cb12w9_0, cb12w9_1, lb12w9], by simp [go_sem, cb12w9_0, cb12w9_1, lb12w9], (show Below _ _ _ from (by repeat (first | (with_reducible assumption) | exact Below.refl _ _ | (with_reducible refine Below.alloc ?_ (by first | omega | (simp <;> omega)) _) | (with_reducible refine Below.setCell ?_ (by first | omega | (simp <;> omega)) _) | (with_reducible refine Below.drew ?_))))⟩
        case rest =>
          obtain ⟨b12, rfl, rfl, l12, d0, d1, hT⟩ := hcut
          obtain ⟨wM, hWM⟩ : ∃ X, X = wc := ⟨_, rfl⟩
          subst hWM
          go_wp2_with fail
          go_quiet (fail)
          generalize hq : World.drewN wM _ = wQ
          have hbq := drawnS hq
          clear hq
          go_wp2
          go_roundg (n - (k + 1))
          case measure => omega
          case rel => exact ⟨k + 1, by omega, by omega, by go_num, by rw [Hsn.out], by rw [Hsn.out], btS hB.out (Nat.le_refl _) (btS hT.out (Nat.le_refl _) hbq)⟩
      · have hltz : ¬ (k : Int) < (n : Int) := by omega
        obtain rfl : k = n := by omega
        have hfull : sumR ((gs.take k).map (giveR r)) = ⟨y0, y1⟩ := by rw [List.take_of_length_le (by have := hn.out; omega)]; exact HS2.out
        rw [hfull]
        clear hfull
        have l7' : b7 < wL.heap.size := by omega
        go_wp2_with fail
        exact sums_t6 r x0 x1 lo A _ cc gs w HX h0 hn hl1 hl bx0 bx1 wL hBL y0 y1 ha0 ha1 ha2 HE HS2 (by omega) b7 l7' q0 q1 q2 q3 q4 q5 q6 q7 q8 q9 s0 s1 c70 c71
  · have he2 := errG_two' (r := r) (gs := gs) (by have := hn.out; omega) (by rw [HE.out]; exact he)
    have hs := HS.out
    rw [if_neg he] at hs
    obtain rfl : er = 2 := by rw [← HE.out]; exact he2
    have hy0 : (0 : Int) = y0 := congrArg R.lo hs
    have hy1 : (0 : Int) = y1 := congrArg R.hi hs
    subst hy0
    subst hy1
    clear hs he2 HS HE
    go_wp2_with fail
    refine (hkn _).mono ?_
    rintro e wK ⟨rfl, hbK⟩
    go_wp2
    go_ret
    exact ⟨rfl, btS hBA (Nat.le_refl _) hbK⟩


set_option maxRecDepth 100000 in
set_option maxHeartbeats 4000000 in
theorem sums_law (r : TR) (x0 x1 : Int) (lo : Nat) (A : Option Addr) (n cc : Nat) (gs : List Gp) (w : World) (hx : gpL.at w lo A gs) (h0 : A = none → n = 0 ∧ cc = 0) (hn : Aside (gs.length = n)) (hl : n ≤ maxLen) (bx0 : 0 ≤ x0 ∧ x0 ≤ 65535) (bx1 : 0 ≤ x1 ∧ x1 ≤ 65535) :
    Calls Try.prog 13 #[rV r, .slice A n cc, .agg #[.int .u16 x0, .int .u16 x1]] w fun e w' => e = .returned (.bool true) ∧ Below w.heap.size w w' := by
  have hkn := fun (W : World) => known_any W
  have HX : Aside (gpL.at w lo A gs) := hx
  clear hx
  rw [show rV r = .agg #[.int .i64 r.frost, .int .i64 r.thaw, .int .i64 r.gain, .int .i64 r.full, .int .i64 r.ice, .int .i64 r.most, .int .i64 r.melt, .int .i64 r.rlow, .int .i64 r.rhigh, .int .i64 r.pull] from rfl]
  by_cases hlo : n < 1
  · have hz : (n : Int) < 1 := by omega
    go_enter Try.func13, Try.ntmps13
    go_wp2_with fail
    refine (hkn _).mono ?_
    rintro e w5 ⟨rfl, hb5⟩
    go_wp2
    go_ret
    exact ⟨rfl, (by (try show Below _ _ _); repeat (first | (with_reducible refine Below.setCell ?_ (by first | omega | (simp <;> omega)) _) | (with_reducible refine Below.alloc ?_ (by first | omega | (simp <;> omega)) _) | (with_reducible refine Below.drew ?_) | (with_reducible exact Below.refl _ _) | (with_reducible exact hb5) | (with_reducible refine below_call ?_ (by assumption) (by first | omega | (simp <;> omega))) | (with_reducible refine below_call ?_ (Drew.below (by assumption) _) (by first | omega | (simp <;> omega)))))⟩
  · have hz : ¬ (n : Int) < 1 := by omega
    by_cases hhi : 30 < n
    · have hz2 : (30 : Int) < (n : Int) := by omega
      go_enter Try.func13, Try.ntmps13
      go_wp2_with fail
      refine (hkn _).mono ?_
      rintro e w5 ⟨rfl, hb5⟩
      go_wp2
      go_ret
      exact ⟨rfl, (by (try show Below _ _ _); repeat (first | (with_reducible refine Below.setCell ?_ (by first | omega | (simp <;> omega)) _) | (with_reducible refine Below.alloc ?_ (by first | omega | (simp <;> omega)) _) | (with_reducible refine Below.drew ?_) | (with_reducible exact Below.refl _ _) | (with_reducible exact hb5) | (with_reducible refine below_call ?_ (by assumption) (by first | omega | (simp <;> omega))) | (with_reducible refine below_call ?_ (Drew.below (by assumption) _) (by first | omega | (simp <;> omega)))))⟩
    · have hz2 : ¬ (30 : Int) < (n : Int) := by omega
      have hl1 : 1 ≤ n := by omega
      have hl30 : n ≤ 30 := by omega
      obtain ⟨er, her⟩ : ∃ er, errG r gs = er := ⟨_, rfl⟩
      obtain ⟨⟨y0, y1⟩, hxx⟩ : ∃ x, (if er = 0 then sumR (gs.map (giveR r)) else R.d) = x := ⟨_, rfl⟩
      have HE : Aside (errG r gs = er) := her
      have HS : Aside ((if er = 0 then sumR (gs.map (giveR r)) else R.d) = ⟨y0, y1⟩) := hxx
      have hG := fun A' c' (W : World) (h : gpL.at W 0 A' gs) => gives_any r 0 A' n c' gs W h hn hl
      rw [her, hxx, show rV r = .agg #[.int .i64 r.frost, .int .i64 r.thaw, .int .i64 r.gain, .int .i64 r.full, .int .i64 r.ice, .int .i64 r.most, .int .i64 r.melt, .int .i64 r.rlow, .int .i64 r.rhigh, .int .i64 r.pull] from rfl] at hG
      unfold GivesPost at hG
      obtain ⟨i5, hi5, hzi, hsi, hbi⟩ := info_parts infoGp
      clear her hxx hlo hhi hl
      go_enter Try.func13, Try.ntmps13
      refine wp_tail 3 (R := sumsTail3) (show sumsTail3 = dropC 3 (bodyC Try.f13) from rfl) ?_
      conv => arg 2; simp only [bodyC, Try.f13, Option.getD_some, dropC, mkC]
      go_upto_region 3 with (fail)
      obtain ⟨E0, hNE0⟩ : ∃ X, X = w.alloc (.cells #[.int .i64 r.frost, .int .i64 r.thaw, .int .i64 r.gain, .int .i64 r.full, .int .i64 r.ice, .int .i64 r.most, .int .i64 r.melt, .int .i64 r.rlow, .int .i64 r.rhigh, .int .i64 r.pull] 25) := ⟨_, rfl⟩
      have hsE0 : E0.heap.size = w.heap.size + 1 := by rw [hNE0]; simp
      have hbE0 : Below w.heap.size w E0 := by rw [hNE0]; exact (Below.refl _ _).alloc (Nat.le_refl _) _
      have q0 : E0.cell? ⟨w.heap.size, 0, none⟩ = some (.int .i64 r.frost) := by rw [hNE0]; simp [go_sem]
      have q1 : E0.cell? ⟨w.heap.size, 1, none⟩ = some (.int .i64 r.thaw) := by rw [hNE0]; simp [go_sem]
      have q2 : E0.cell? ⟨w.heap.size, 2, none⟩ = some (.int .i64 r.gain) := by rw [hNE0]; simp [go_sem]
      have q3 : E0.cell? ⟨w.heap.size, 3, none⟩ = some (.int .i64 r.full) := by rw [hNE0]; simp [go_sem]
      have q4 : E0.cell? ⟨w.heap.size, 4, none⟩ = some (.int .i64 r.ice) := by rw [hNE0]; simp [go_sem]
      have q5 : E0.cell? ⟨w.heap.size, 5, none⟩ = some (.int .i64 r.most) := by rw [hNE0]; simp [go_sem]
      have q6 : E0.cell? ⟨w.heap.size, 6, none⟩ = some (.int .i64 r.melt) := by rw [hNE0]; simp [go_sem]
      have q7 : E0.cell? ⟨w.heap.size, 7, none⟩ = some (.int .i64 r.rlow) := by rw [hNE0]; simp [go_sem]
      have q8 : E0.cell? ⟨w.heap.size, 8, none⟩ = some (.int .i64 r.rhigh) := by rw [hNE0]; simp [go_sem]
      have q9 : E0.cell? ⟨w.heap.size, 9, none⟩ = some (.int .i64 r.pull) := by rw [hNE0]; simp [go_sem]
      rw [← hNE0]
      clear hNE0
      obtain ⟨E1, hNE1⟩ : ∃ X, X = E0.alloc (.cells #[.int .u16 x0, .int .u16 x1] 100) := ⟨_, rfl⟩
      have hsE1 : E1.heap.size = w.heap.size + 1 + 1 := by rw [hNE1]; simp; omega
      have hbE1 : Below E0.heap.size E0 E1 := by rw [hNE1]; exact (Below.refl _ _).alloc (Nat.le_refl _) _
      have s0 : E1.cell? ⟨w.heap.size + 1, 0, none⟩ = some (.int .u16 x0) := by rw [hNE1, ← hsE0]; simp [go_sem]
      have s1 : E1.cell? ⟨w.heap.size + 1, 1, none⟩ = some (.int .u16 x1) := by rw [hNE1, ← hsE0]; simp [go_sem]
      rw [← hNE1]
      clear hNE1
      have hcE0 : Below E0.heap.size E0 E1 := hbE1
      replace q0 := (hcE0.cell (p := ⟨w.heap.size, 0, none⟩) (by show w.heap.size < _; omega)).trans q0
      replace q1 := (hcE0.cell (p := ⟨w.heap.size, 1, none⟩) (by show w.heap.size < _; omega)).trans q1
      replace q2 := (hcE0.cell (p := ⟨w.heap.size, 2, none⟩) (by show w.heap.size < _; omega)).trans q2
      replace q3 := (hcE0.cell (p := ⟨w.heap.size, 3, none⟩) (by show w.heap.size < _; omega)).trans q3
      replace q4 := (hcE0.cell (p := ⟨w.heap.size, 4, none⟩) (by show w.heap.size < _; omega)).trans q4
      replace q5 := (hcE0.cell (p := ⟨w.heap.size, 5, none⟩) (by show w.heap.size < _; omega)).trans q5
      replace q6 := (hcE0.cell (p := ⟨w.heap.size, 6, none⟩) (by show w.heap.size < _; omega)).trans q6
      replace q7 := (hcE0.cell (p := ⟨w.heap.size, 7, none⟩) (by show w.heap.size < _; omega)).trans q7
      replace q8 := (hcE0.cell (p := ⟨w.heap.size, 8, none⟩) (by show w.heap.size < _; omega)).trans q8
      replace q9 := (hcE0.cell (p := ⟨w.heap.size, 9, none⟩) (by show w.heap.size < _; omega)).trans q9
      have hBWE : Below w.heap.size w E1 := hbE0.trans (hcE0.mono hbE0.size)
      clear hcE0 hbE0 hbE1
      clear hsE0
      have hl0E : w.heap.size + 1 < E1.heap.size := by omega
      clear hsE1
      go_cut [7, 8] (fun v7 v8 wx => ∃ b7 : Nat, v7 = .pointer (some ⟨b7, 0, none⟩) ∧ v8 = .int .i64 er ∧ b7 < wx.heap.size ∧ wx.cell? ⟨b7, 0, none⟩ = some (.int .i64 y0) ∧ wx.cell? ⟨b7, 1, none⟩ = some (.int .i64 y1) ∧ Aside (Below E1.heap.size E1 wx))
      case first =>
        have hAll : Aside (∀ W, Below E1.heap.size E1 W → (Below E1.heap.size E1 W ∧ W.cell? ⟨w.heap.size, 0, none⟩ = some (.int .i64 r.frost) ∧ W.cell? ⟨w.heap.size, 1, none⟩ = some (.int .i64 r.thaw) ∧ W.cell? ⟨w.heap.size, 2, none⟩ = some (.int .i64 r.gain) ∧ W.cell? ⟨w.heap.size, 3, none⟩ = some (.int .i64 r.full) ∧ W.cell? ⟨w.heap.size, 4, none⟩ = some (.int .i64 r.ice) ∧ W.cell? ⟨w.heap.size, 5, none⟩ = some (.int .i64 r.most) ∧ W.cell? ⟨w.heap.size, 6, none⟩ = some (.int .i64 r.melt) ∧ W.cell? ⟨w.heap.size, 7, none⟩ = some (.int .i64 r.rlow) ∧ W.cell? ⟨w.heap.size, 8, none⟩ = some (.int .i64 r.rhigh) ∧ W.cell? ⟨w.heap.size, 9, none⟩ = some (.int .i64 r.pull) ∧ W.cell? ⟨w.heap.size + 1, 0, none⟩ = some (.int .u16 x0) ∧ W.cell? ⟨w.heap.size + 1, 1, none⟩ = some (.int .u16 x1))) := fun W h => ⟨h, (h.cell (p := ⟨w.heap.size, 0, none⟩) (by show w.heap.size < _; omega)).trans q0, (h.cell (p := ⟨w.heap.size, 1, none⟩) (by show w.heap.size < _; omega)).trans q1, (h.cell (p := ⟨w.heap.size, 2, none⟩) (by show w.heap.size < _; omega)).trans q2, (h.cell (p := ⟨w.heap.size, 3, none⟩) (by show w.heap.size < _; omega)).trans q3, (h.cell (p := ⟨w.heap.size, 4, none⟩) (by show w.heap.size < _; omega)).trans q4, (h.cell (p := ⟨w.heap.size, 5, none⟩) (by show w.heap.size < _; omega)).trans q5, (h.cell (p := ⟨w.heap.size, 6, none⟩) (by show w.heap.size < _; omega)).trans q6, (h.cell (p := ⟨w.heap.size, 7, none⟩) (by show w.heap.size < _; omega)).trans q7, (h.cell (p := ⟨w.heap.size, 8, none⟩) (by show w.heap.size < _; omega)).trans q8, (h.cell (p := ⟨w.heap.size, 9, none⟩) (by show w.heap.size < _; omega)).trans q9, (h.cell (p := ⟨w.heap.size + 1, 0, none⟩) (by show w.heap.size + 1 < _; omega)).trans s0, (h.cell (p := ⟨w.heap.size + 1, 1, none⟩) (by show w.heap.size + 1 < _; omega)).trans s1⟩
        refine wp_region_held_drew (S := fun W => Below E1.heap.size E1 W ∧ W.cell? ⟨w.heap.size, 0, none⟩ = some (.int .i64 r.frost) ∧ W.cell? ⟨w.heap.size, 1, none⟩ = some (.int .i64 r.thaw) ∧ W.cell? ⟨w.heap.size, 2, none⟩ = some (.int .i64 r.gain) ∧ W.cell? ⟨w.heap.size, 3, none⟩ = some (.int .i64 r.full) ∧ W.cell? ⟨w.heap.size, 4, none⟩ = some (.int .i64 r.ice) ∧ W.cell? ⟨w.heap.size, 5, none⟩ = some (.int .i64 r.most) ∧ W.cell? ⟨w.heap.size, 6, none⟩ = some (.int .i64 r.melt) ∧ W.cell? ⟨w.heap.size, 7, none⟩ = some (.int .i64 r.rlow) ∧ W.cell? ⟨w.heap.size, 8, none⟩ = some (.int .i64 r.rhigh) ∧ W.cell? ⟨w.heap.size, 9, none⟩ = some (.int .i64 r.pull) ∧ W.cell? ⟨w.heap.size + 1, 0, none⟩ = some (.int .u16 x0) ∧ W.cell? ⟨w.heap.size + 1, 1, none⟩ = some (.int .u16 x1)) (by kernel_rfl) (hAll.out _ ((Below.refl _ _).drew)) (fun hS0 => ?_)
        refine wpAnyH_take (i := 0) (v := ?_) rfl (by kernel_rfl) (by kernel_rfl) (by kernel_rfl) (fun _ _ _ h => h) (Or.inl ⟨by rfl, ?_⟩) hS0 ?_
        rotate_left
        · (intro W hSw; (try dsimp only at hSw); go_split_ands; go_simp; (try with_reducible rfl))
        (try go_simp)
        refine wpAnyH_take (i := 2) (v := ?_) rfl (by kernel_rfl) (by kernel_rfl) (by kernel_rfl) (fun _ _ _ h => h) (Or.inl ⟨by rfl, ?_⟩) hS0 ?_
        rotate_left
        · (intro W hSw; (try dsimp only at hSw); go_split_ands; go_simp; (try with_reducible rfl))
        (try go_simp)
        refine wpAnyH_ready (rs := [1, 8]) (by kernel_rfl) (by simp) ?_
        refine (AllReadyH.cons rfl (fun K hK => ?_) (AllReadyH.cons rfl (fun K hK => ?_) AllReadyH.nil))
        · skip
          go_simp
          refine hK.out _ _ (hAll.out _ (by repeat (first | (with_reducible assumption) | exact Below.refl _ _ | (with_reducible refine Below.alloc ?_ (by first | omega | (simp <;> omega)) _) | (with_reducible refine Below.setCell ?_ (by first | omega | (simp <;> omega)) _) | (with_reducible refine Below.drew ?_)))) (fun hS1 => ?_)
          clear hK K
          (try go_simp)
          refine wpAnyH_ready (rs := [3, 8]) (by kernel_rfl) (by simp) ?_
          refine (AllReadyH.cons rfl (fun K hK => ?_) (AllReadyH.cons rfl (fun K hK => ?_) AllReadyH.nil))
          · skip
            refine step_append_copy gpL rfl _ _ _ (by rfl) 102 i5 _ 24 Try.underlying93 hi5 hzi hsi hbi rfl _ (by rfl) (by first | exact ownsRow_emptyK _ _ _ | exact (ownsRow_emptyK _ _ _).drew | exact (ownsRow_emptyK _ _ _).alloc _ | exact ((ownsRow_emptyK _ _ _).alloc _).drew | (have hq := (ownsRow_emptyK (World.alloc E1 (.cells #[.int .i64 0, .int .i64 0] 23)) 102 3).drew; simp at hq; exact hq)) A n cc lo gs (by rfl) (Lay.at_below HX.out (btS hBWE (Nat.le_refl _) (show Below E1.heap.size E1 _ from (by repeat (first | (with_reducible assumption) | exact Below.refl _ _ | (with_reducible refine Below.alloc ?_ (by first | omega | (simp <;> omega)) _) | (with_reducible refine Below.setCell ?_ (by first | omega | (simp <;> omega)) _) | (with_reducible refine Below.drew ?_))))) (Nat.le_refl _)) hn.out h0 (by unfold maxLen; omega) (by omega) (by first | (simp; done) | (simp; omega)) ?_
            intro Aw6 cw6 w6 hatw6 hgrw6 hnw6 hmw6
            have hTw6 : Below E1.heap.size E1 w6 := Below.grown (by repeat (first | (with_reducible assumption) | exact Below.refl _ _ | (with_reducible refine Below.alloc ?_ (by first | omega | (simp <;> omega)) _) | (with_reducible refine Below.setCell ?_ (by first | omega | (simp <;> omega)) _) | (with_reducible refine Below.drew ?_))) hgrw6 (by first | (simp; done) | (simp; omega)) (fun k e => by cases e; first | (simp; done) | (simp; omega))
            have hsw6 := hTw6.size
            have hzw6 := hgrw6.size
            (try simp only [World.size_alloc, World.size_drew, World.size_setCell] at hzw6)
            have l_ownw6 : E1.heap.size < w6.heap.size := by first | omega | (simp at hzw6; omega)
            refine hK.out _ _ (hAll.out _ hTw6) (fun hS2 => ?_)
            clear hK K
            (try go_simp)
            refine wpAnyH_ready (rs := [4, 8]) (by kernel_rfl) (by simp) ?_
            refine (AllReadyH.cons rfl (fun K hK => ?_) (AllReadyH.cons rfl (fun K hK => ?_) AllReadyH.nil))
            · skip
              go_simp
              go_wp2_with (go_at_call 47; refine Calls.mono (hG _ _ _ (Lay.at_mono (Lay.at_below hatw6 (show Below w6.heap.size w6 _ from (by repeat (first | (with_reducible assumption) | exact Below.refl _ _ | (with_reducible refine Below.alloc ?_ (by first | omega | (simp <;> omega)) _) | (with_reducible refine Below.setCell ?_ (by first | omega | (simp <;> omega)) _) | (with_reducible refine Below.drew ?_)))) (Nat.le_refl _)) (Nat.zero_le _))) ?_; rintro e w9 ⟨rfl, hb9⟩)
              have hTw9 : Below E1.heap.size E1 w9 := btS (show Below E1.heap.size E1 _ from (by repeat (first | (with_reducible assumption) | exact Below.refl _ _ | (with_reducible refine Below.alloc ?_ (by first | omega | (simp <;> omega)) _) | (with_reducible refine Below.setCell ?_ (by first | omega | (simp <;> omega)) _) | (with_reducible refine Below.drew ?_)))) (Nat.le_refl _) hb9
              have hsw9 := hTw9.size
              have hzw9 := hb9.size
              (try simp only [World.size_alloc, World.size_drew, World.size_setCell] at hzw9)
              have l_ownw9 : E1.heap.size < w9.heap.size := by first | omega | (simp at hzw9; omega)
              refine hK.out _ _ (hAll.out _ hTw9) (fun hS3 => ?_)
              clear hK K
              (try go_simp)
              refine wpAnyH_take (i := 5) (v := ?_) rfl (by kernel_rfl) (by kernel_rfl) (by kernel_rfl) (fun _ _ _ h => h) (Or.inl ⟨by rfl, ?_⟩) hS3 ?_
              rotate_left
              · (intro W hSw; (try dsimp only at hSw); go_split_ands; go_simp; (try with_reducible rfl))
              (try go_simp)
              refine wpAnyH_take (i := 6) (v := ?_) rfl (by kernel_rfl) (by kernel_rfl) (by kernel_rfl) (fun _ _ _ h => h) (Or.inl ⟨by rfl, ?_⟩) hS3 ?_
              rotate_left
              · (intro W hSw; (try dsimp only at hSw); go_split_ands; go_simp; (try with_reducible rfl))
              (try go_simp)
              refine wpAnyH_take (i := 7) (v := ?_) rfl (by kernel_rfl) (by kernel_rfl) (by kernel_rfl) (fun _ _ _ h => h) (Or.inl ⟨by rfl, ?_⟩) hS3 ?_
              rotate_left
              · (intro W hSw; (try dsimp only at hSw); go_split_ands; go_simp; (try with_reducible rfl))
              (try go_simp)
              refine wpAnyH_ready (rs := [8]) (by kernel_rfl) (by simp) ?_
              refine (AllReadyH.cons rfl (fun K hK => ?_) AllReadyH.nil)
              go_simp
              refine hK.out _ _ (hAll.out _ (by repeat (first | (with_reducible assumption) | exact Below.refl _ _ | (with_reducible refine Below.alloc ?_ (by first | omega | (simp <;> omega)) _) | (with_reducible refine Below.setCell ?_ (by first | omega | (simp <;> omega)) _) | (with_reducible refine Below.drew ?_)))) (fun hS4 => ?_)
              clear hK K
              (try go_simp)
              refine wpAnyH_ready (rs := [9]) (by kernel_rfl) (by simp) ?_
              refine (AllReadyH.cons rfl (fun K hK => ?_) AllReadyH.nil)
              go_simp
              refine hK.out _ _ (hAll.out _ (by repeat (first | (with_reducible assumption) | exact Below.refl _ _ | (with_reducible refine Below.alloc ?_ (by first | omega | (simp <;> omega)) _) | (with_reducible refine Below.setCell ?_ (by first | omega | (simp <;> omega)) _) | (with_reducible refine Below.drew ?_)))) (fun hS5 => ?_)
              clear hK K
              (try go_simp)
              refine wpAnyH_take (i := 10) (v := ?_) rfl (by kernel_rfl) (by kernel_rfl) (by kernel_rfl) (fun _ _ _ h => h) (Or.inl ⟨by rfl, ?_⟩) hS5 ?_
              rotate_left
              · (intro W hSw; (try dsimp only at hSw); go_split_ands; go_simp; (try with_reducible rfl))
              (try go_simp)
              refine wpAnyH_done (by kernel_rfl) ?_ _
              (try go_simp)
              go_wp2_with fail
              go_meet
              exact ⟨_, rfl, rfl, by first | omega | (simp; done) | (simp; omega), by simp [go_sem], by simp [go_sem], (show Below _ _ _ from (by repeat (first | (with_reducible assumption) | exact Below.refl _ _ | (with_reducible refine Below.alloc ?_ (by first | omega | (simp <;> omega)) _) | (with_reducible refine Below.setCell ?_ (by first | omega | (simp <;> omega)) _) | (with_reducible refine Below.drew ?_))))⟩
            · skip
              go_simp
              refine hK.out _ _ (hAll.out _ (by repeat (first | (with_reducible assumption) | exact Below.refl _ _ | (with_reducible refine Below.alloc ?_ (by first | omega | (simp <;> omega)) _) | (with_reducible refine Below.setCell ?_ (by first | omega | (simp <;> omega)) _) | (with_reducible refine Below.drew ?_)))) (fun hS6 => ?_)
              clear hK K
              (try go_simp)
              refine wpAnyH_ready (rs := [4]) (by kernel_rfl) (by simp) ?_
              refine (AllReadyH.cons rfl (fun K hK => ?_) AllReadyH.nil)
              go_simp
              go_wp2_with (go_at_call 47; refine Calls.mono (hG _ _ _ (Lay.at_mono (Lay.at_below hatw6 (show Below w6.heap.size w6 _ from (by repeat (first | (with_reducible assumption) | exact Below.refl _ _ | (with_reducible refine Below.alloc ?_ (by first | omega | (simp <;> omega)) _) | (with_reducible refine Below.setCell ?_ (by first | omega | (simp <;> omega)) _) | (with_reducible refine Below.drew ?_)))) (Nat.le_refl _)) (Nat.zero_le _))) ?_; rintro e w9 ⟨rfl, hb9⟩)
              have hTw9 : Below E1.heap.size E1 w9 := btS (show Below E1.heap.size E1 _ from (by repeat (first | (with_reducible assumption) | exact Below.refl _ _ | (with_reducible refine Below.alloc ?_ (by first | omega | (simp <;> omega)) _) | (with_reducible refine Below.setCell ?_ (by first | omega | (simp <;> omega)) _) | (with_reducible refine Below.drew ?_)))) (Nat.le_refl _) hb9
              have hsw9 := hTw9.size
              have hzw9 := hb9.size
              (try simp only [World.size_alloc, World.size_drew, World.size_setCell] at hzw9)
              have l_ownw9 : E1.heap.size < w9.heap.size := by first | omega | (simp at hzw9; omega)
              have cb7w9_0 : w9.cell? ⟨w6.heap.size, 0, none⟩ = some (.int .i64 0) := (hb9.cell (p := ⟨w6.heap.size, 0, none⟩) (by show w6.heap.size < _; first | omega | (simp; done) | (simp; omega))).trans (by first | exact cnone_0 | (simp [go_sem]))
              have fb7w9_0 : w9.frozen? ⟨w6.heap.size, 0, none⟩ = false := (hb9.frozen (p := ⟨w6.heap.size, 0, none⟩) (by show w6.heap.size < _; first | omega | (simp; done) | (simp; omega))).trans (by first | exact fnone_0 | (simp [go_sem]))
              have cb7w9_1 : w9.cell? ⟨w6.heap.size, 1, none⟩ = some (.int .i64 0) := (hb9.cell (p := ⟨w6.heap.size, 1, none⟩) (by show w6.heap.size < _; first | omega | (simp; done) | (simp; omega))).trans (by first | exact cnone_1 | (simp [go_sem]))
              have fb7w9_1 : w9.frozen? ⟨w6.heap.size, 1, none⟩ = false := (hb9.frozen (p := ⟨w6.heap.size, 1, none⟩) (by show w6.heap.size < _; first | omega | (simp; done) | (simp; omega))).trans (by first | exact fnone_1 | (simp [go_sem]))
              have lb7w9 : w6.heap.size < w9.heap.size := by first | omega | (simp at hzw9; omega)
              refine hK.out _ _ (hAll.out _ hTw9) (fun hS7 => ?_)
              clear hK K
              (try go_simp)
              refine wpAnyH_take (i := 5) (v := ?_) rfl (by kernel_rfl) (by kernel_rfl) (by kernel_rfl) (fun _ _ _ h => h) (Or.inl ⟨by rfl, ?_⟩) hS7 ?_
              rotate_left
              · (intro W hSw; (try dsimp only at hSw); go_split_ands; go_simp; (try with_reducible rfl))
              (try go_simp)
              refine wpAnyH_take (i := 6) (v := ?_) rfl (by kernel_rfl) (by kernel_rfl) (by kernel_rfl) (fun _ _ _ h => h) (Or.inl ⟨by rfl, ?_⟩) hS7 ?_
              rotate_left
              · (intro W hSw; (try dsimp only at hSw); go_split_ands; go_simp; (try with_reducible rfl))
              (try go_simp)
              refine wpAnyH_take (i := 7) (v := ?_) rfl (by kernel_rfl) (by kernel_rfl) (by kernel_rfl) (fun _ _ _ h => h) (Or.inl ⟨by rfl, ?_⟩) hS7 ?_
              rotate_left
              · (intro W hSw; (try dsimp only at hSw); go_split_ands; go_simp; (try with_reducible rfl))
              (try go_simp)
              refine wpAnyH_ready (rs := [9]) (by kernel_rfl) (by simp) ?_
              refine (AllReadyH.cons rfl (fun K hK => ?_) AllReadyH.nil)
              go_simp
              refine hK.out _ _ (hAll.out _ (by repeat (first | (with_reducible assumption) | exact Below.refl _ _ | (with_reducible refine Below.alloc ?_ (by first | omega | (simp <;> omega)) _) | (with_reducible refine Below.setCell ?_ (by first | omega | (simp <;> omega)) _) | (with_reducible refine Below.drew ?_)))) (fun hS8 => ?_)
              clear hK K
              (try go_simp)
              refine wpAnyH_take (i := 10) (v := ?_) rfl (by kernel_rfl) (by kernel_rfl) (by kernel_rfl) (fun _ _ _ h => h) (Or.inl ⟨by rfl, ?_⟩) hS8 ?_
              rotate_left
              · (intro W hSw; (try dsimp only at hSw); go_split_ands; go_simp; (try with_reducible rfl))
              (try go_simp)
              refine wpAnyH_done (by kernel_rfl) ?_ _
              (try go_simp)
              go_wp2_with fail
              go_meet
              exact ⟨_, rfl, rfl, by first | omega | (simp; done) | (simp; omega), by simp [go_sem, cb7w9_0, cb7w9_1, lb7w9], by simp [go_sem, cb7w9_0, cb7w9_1, lb7w9], (show Below _ _ _ from (by repeat (first | (with_reducible assumption) | exact Below.refl _ _ | (with_reducible refine Below.alloc ?_ (by first | omega | (simp <;> omega)) _) | (with_reducible refine Below.setCell ?_ (by first | omega | (simp <;> omega)) _) | (with_reducible refine Below.drew ?_))))⟩
          · skip
            go_simp
            refine hK.out _ _ (hAll.out _ (by repeat (first | (with_reducible assumption) | exact Below.refl _ _ | (with_reducible refine Below.alloc ?_ (by first | omega | (simp <;> omega)) _) | (with_reducible refine Below.setCell ?_ (by first | omega | (simp <;> omega)) _) | (with_reducible refine Below.drew ?_)))) (fun hS9 => ?_)
            clear hK K
            (try go_simp)
            refine wpAnyH_ready (rs := [3]) (by kernel_rfl) (by simp) ?_
            refine (AllReadyH.cons rfl (fun K hK => ?_) AllReadyH.nil)
            refine step_append_copy gpL rfl _ _ _ (by rfl) 102 i5 _ 24 Try.underlying93 hi5 hzi hsi hbi rfl _ (by rfl) (by first | exact ownsRow_emptyK _ _ _ | exact (ownsRow_emptyK _ _ _).drew | exact (ownsRow_emptyK _ _ _).alloc _ | exact ((ownsRow_emptyK _ _ _).alloc _).drew | (have hq := (ownsRow_emptyK (World.alloc E1 (.cells #[.int .i64 0, .int .i64 0] 23)) 102 3).drew; simp at hq; exact hq)) A n cc lo gs (by rfl) (Lay.at_below HX.out (btS hBWE (Nat.le_refl _) (show Below E1.heap.size E1 _ from (by repeat (first | (with_reducible assumption) | exact Below.refl _ _ | (with_reducible refine Below.alloc ?_ (by first | omega | (simp <;> omega)) _) | (with_reducible refine Below.setCell ?_ (by first | omega | (simp <;> omega)) _) | (with_reducible refine Below.drew ?_))))) (Nat.le_refl _)) hn.out h0 (by unfold maxLen; omega) (by omega) (by first | (simp; done) | (simp; omega)) ?_
            intro Aw6 cw6 w6 hatw6 hgrw6 hnw6 hmw6
            have hTw6 : Below E1.heap.size E1 w6 := Below.grown (by repeat (first | (with_reducible assumption) | exact Below.refl _ _ | (with_reducible refine Below.alloc ?_ (by first | omega | (simp <;> omega)) _) | (with_reducible refine Below.setCell ?_ (by first | omega | (simp <;> omega)) _) | (with_reducible refine Below.drew ?_))) hgrw6 (by first | (simp; done) | (simp; omega)) (fun k e => by cases e; first | (simp; done) | (simp; omega))
            have hsw6 := hTw6.size
            have hzw6 := hgrw6.size
            (try simp only [World.size_alloc, World.size_drew, World.size_setCell] at hzw6)
            have l_ownw6 : E1.heap.size < w6.heap.size := by first | omega | (simp at hzw6; omega)
            have cb7w6_0 : w6.cell? ⟨E1.heap.size + 1, 0, none⟩ = some (.int .i64 0) := (hgrw6.cell_far ⟨E1.heap.size + 1, 0, none⟩ (by first | (simp; done) | (simp; omega)) (by simp)).trans (by first | exact cnone_0 | (simp [go_sem]))
            have fb7w6_0 : w6.frozen? ⟨E1.heap.size + 1, 0, none⟩ = false := (hgrw6.frozen_far ⟨E1.heap.size + 1, 0, none⟩ (by first | (simp; done) | (simp; omega)) (by simp)).trans (by first | exact fnone_0 | (simp [go_sem]))
            have cb7w6_1 : w6.cell? ⟨E1.heap.size + 1, 1, none⟩ = some (.int .i64 0) := (hgrw6.cell_far ⟨E1.heap.size + 1, 1, none⟩ (by first | (simp; done) | (simp; omega)) (by simp)).trans (by first | exact cnone_1 | (simp [go_sem]))
            have fb7w6_1 : w6.frozen? ⟨E1.heap.size + 1, 1, none⟩ = false := (hgrw6.frozen_far ⟨E1.heap.size + 1, 1, none⟩ (by first | (simp; done) | (simp; omega)) (by simp)).trans (by first | exact fnone_1 | (simp [go_sem]))
            have lb7w6 : E1.heap.size + 1 < w6.heap.size := by first | omega | (simp at hzw6; omega)
            refine hK.out _ _ (hAll.out _ hTw6) (fun hS10 => ?_)
            clear hK K
            (try go_simp)
            refine wpAnyH_ready (rs := [4]) (by kernel_rfl) (by simp) ?_
            refine (AllReadyH.cons rfl (fun K hK => ?_) AllReadyH.nil)
            go_simp
            go_wp2_with (go_at_call 47; refine Calls.mono (hG _ _ _ (Lay.at_mono (Lay.at_below hatw6 (show Below w6.heap.size w6 _ from (by repeat (first | (with_reducible assumption) | exact Below.refl _ _ | (with_reducible refine Below.alloc ?_ (by first | omega | (simp <;> omega)) _) | (with_reducible refine Below.setCell ?_ (by first | omega | (simp <;> omega)) _) | (with_reducible refine Below.drew ?_)))) (Nat.le_refl _)) (Nat.zero_le _))) ?_; rintro e w9 ⟨rfl, hb9⟩)
            have hTw9 : Below E1.heap.size E1 w9 := btS (show Below E1.heap.size E1 _ from (by repeat (first | (with_reducible assumption) | exact Below.refl _ _ | (with_reducible refine Below.alloc ?_ (by first | omega | (simp <;> omega)) _) | (with_reducible refine Below.setCell ?_ (by first | omega | (simp <;> omega)) _) | (with_reducible refine Below.drew ?_)))) (Nat.le_refl _) hb9
            have hsw9 := hTw9.size
            have hzw9 := hb9.size
            (try simp only [World.size_alloc, World.size_drew, World.size_setCell] at hzw9)
            have l_ownw9 : E1.heap.size < w9.heap.size := by first | omega | (simp at hzw9; omega)
            have cb7w9_0 : w9.cell? ⟨E1.heap.size + 1, 0, none⟩ = some (.int .i64 0) := (hb9.cell (p := ⟨E1.heap.size + 1, 0, none⟩) (by show E1.heap.size + 1 < _; first | omega | (simp; done) | (simp; omega))).trans (by first | exact cb7w6_0 | (simp [go_sem]))
            have fb7w9_0 : w9.frozen? ⟨E1.heap.size + 1, 0, none⟩ = false := (hb9.frozen (p := ⟨E1.heap.size + 1, 0, none⟩) (by show E1.heap.size + 1 < _; first | omega | (simp; done) | (simp; omega))).trans (by first | exact fb7w6_0 | (simp [go_sem]))
            have cb7w9_1 : w9.cell? ⟨E1.heap.size + 1, 1, none⟩ = some (.int .i64 0) := (hb9.cell (p := ⟨E1.heap.size + 1, 1, none⟩) (by show E1.heap.size + 1 < _; first | omega | (simp; done) | (simp; omega))).trans (by first | exact cb7w6_1 | (simp [go_sem]))
            have fb7w9_1 : w9.frozen? ⟨E1.heap.size + 1, 1, none⟩ = false := (hb9.frozen (p := ⟨E1.heap.size + 1, 1, none⟩) (by show E1.heap.size + 1 < _; first | omega | (simp; done) | (simp; omega))).trans (by first | exact fb7w6_1 | (simp [go_sem]))
            have lb7w9 : E1.heap.size + 1 < w9.heap.size := by first | omega | (simp at hzw9; omega)
            refine hK.out _ _ (hAll.out _ hTw9) (fun hS11 => ?_)
            clear hK K
            (try go_simp)
            refine wpAnyH_take (i := 5) (v := ?_) rfl (by kernel_rfl) (by kernel_rfl) (by kernel_rfl) (fun _ _ _ h => h) (Or.inl ⟨by rfl, ?_⟩) hS11 ?_
            rotate_left
            · (intro W hSw; (try dsimp only at hSw); go_split_ands; go_simp; (try with_reducible rfl))
            (try go_simp)
            refine wpAnyH_take (i := 6) (v := ?_) rfl (by kernel_rfl) (by kernel_rfl) (by kernel_rfl) (fun _ _ _ h => h) (Or.inl ⟨by rfl, ?_⟩) hS11 ?_
            rotate_left
            · (intro W hSw; (try dsimp only at hSw); go_split_ands; go_simp; (try with_reducible rfl))
            (try go_simp)
            refine wpAnyH_take (i := 7) (v := ?_) rfl (by kernel_rfl) (by kernel_rfl) (by kernel_rfl) (fun _ _ _ h => h) (Or.inl ⟨by rfl, ?_⟩) hS11 ?_
            rotate_left
            · (intro W hSw; (try dsimp only at hSw); go_split_ands; go_simp; (try with_reducible rfl))
            (try go_simp)
            refine wpAnyH_ready (rs := [9]) (by kernel_rfl) (by simp) ?_
            refine (AllReadyH.cons rfl (fun K hK => ?_) AllReadyH.nil)
            go_simp
            refine hK.out _ _ (hAll.out _ (by repeat (first | (with_reducible assumption) | exact Below.refl _ _ | (with_reducible refine Below.alloc ?_ (by first | omega | (simp <;> omega)) _) | (with_reducible refine Below.setCell ?_ (by first | omega | (simp <;> omega)) _) | (with_reducible refine Below.drew ?_)))) (fun hS12 => ?_)
            clear hK K
            (try go_simp)
            refine wpAnyH_take (i := 10) (v := ?_) rfl (by kernel_rfl) (by kernel_rfl) (by kernel_rfl) (fun _ _ _ h => h) (Or.inl ⟨by rfl, ?_⟩) hS12 ?_
            rotate_left
            · (intro W hSw; (try dsimp only at hSw); go_split_ands; go_simp; (try with_reducible rfl))
            (try go_simp)
            refine wpAnyH_done (by kernel_rfl) ?_ _
            (try go_simp)
            go_wp2_with fail
            go_meet
            exact ⟨_, rfl, rfl, by first | omega | (simp; done) | (simp; omega), by simp [go_sem, cb7w9_0, cb7w9_1, lb7w9], by simp [go_sem, cb7w9_0, cb7w9_1, lb7w9], (show Below _ _ _ from (by repeat (first | (with_reducible assumption) | exact Below.refl _ _ | (with_reducible refine Below.alloc ?_ (by first | omega | (simp <;> omega)) _) | (with_reducible refine Below.setCell ?_ (by first | omega | (simp <;> omega)) _) | (with_reducible refine Below.drew ?_))))⟩
        · skip
          go_simp
          refine hK.out _ _ (hAll.out _ (by repeat (first | (with_reducible assumption) | exact Below.refl _ _ | (with_reducible refine Below.alloc ?_ (by first | omega | (simp <;> omega)) _) | (with_reducible refine Below.setCell ?_ (by first | omega | (simp <;> omega)) _) | (with_reducible refine Below.drew ?_)))) (fun hS13 => ?_)
          clear hK K
          (try go_simp)
          refine wpAnyH_ready (rs := [1]) (by kernel_rfl) (by simp) ?_
          refine (AllReadyH.cons rfl (fun K hK => ?_) AllReadyH.nil)
          go_simp
          refine hK.out _ _ (hAll.out _ (by repeat (first | (with_reducible assumption) | exact Below.refl _ _ | (with_reducible refine Below.alloc ?_ (by first | omega | (simp <;> omega)) _) | (with_reducible refine Below.setCell ?_ (by first | omega | (simp <;> omega)) _) | (with_reducible refine Below.drew ?_)))) (fun hS14 => ?_)
          clear hK K
          (try go_simp)
          refine wpAnyH_ready (rs := [3]) (by kernel_rfl) (by simp) ?_
          refine (AllReadyH.cons rfl (fun K hK => ?_) AllReadyH.nil)
          refine step_append_copy gpL rfl _ _ _ (by rfl) 102 i5 _ 24 Try.underlying93 hi5 hzi hsi hbi rfl _ (by rfl) (by first | exact ownsRow_emptyK _ _ _ | exact (ownsRow_emptyK _ _ _).drew | exact (ownsRow_emptyK _ _ _).alloc _ | exact ((ownsRow_emptyK _ _ _).alloc _).drew | (have hq := (ownsRow_emptyK (World.alloc E1 (.cells #[.int .i64 0, .int .i64 0] 23)) 102 3).drew; simp at hq; exact hq)) A n cc lo gs (by rfl) (Lay.at_below HX.out (btS hBWE (Nat.le_refl _) (show Below E1.heap.size E1 _ from (by repeat (first | (with_reducible assumption) | exact Below.refl _ _ | (with_reducible refine Below.alloc ?_ (by first | omega | (simp <;> omega)) _) | (with_reducible refine Below.setCell ?_ (by first | omega | (simp <;> omega)) _) | (with_reducible refine Below.drew ?_))))) (Nat.le_refl _)) hn.out h0 (by unfold maxLen; omega) (by omega) (by first | (simp; done) | (simp; omega)) ?_
          intro Aw6 cw6 w6 hatw6 hgrw6 hnw6 hmw6
          have hTw6 : Below E1.heap.size E1 w6 := Below.grown (by repeat (first | (with_reducible assumption) | exact Below.refl _ _ | (with_reducible refine Below.alloc ?_ (by first | omega | (simp <;> omega)) _) | (with_reducible refine Below.setCell ?_ (by first | omega | (simp <;> omega)) _) | (with_reducible refine Below.drew ?_))) hgrw6 (by first | (simp; done) | (simp; omega)) (fun k e => by cases e; first | (simp; done) | (simp; omega))
          have hsw6 := hTw6.size
          have hzw6 := hgrw6.size
          (try simp only [World.size_alloc, World.size_drew, World.size_setCell] at hzw6)
          have cb7w6_0 : w6.cell? ⟨E1.heap.size, 0, none⟩ = some (.int .i64 0) := (hgrw6.cell_far ⟨E1.heap.size, 0, none⟩ (by first | (simp; done) | (simp; omega)) (by simp)).trans (by first | exact cnone_0 | (simp [go_sem]))
          have fb7w6_0 : w6.frozen? ⟨E1.heap.size, 0, none⟩ = false := (hgrw6.frozen_far ⟨E1.heap.size, 0, none⟩ (by first | (simp; done) | (simp; omega)) (by simp)).trans (by first | exact fnone_0 | (simp [go_sem]))
          have cb7w6_1 : w6.cell? ⟨E1.heap.size, 1, none⟩ = some (.int .i64 0) := (hgrw6.cell_far ⟨E1.heap.size, 1, none⟩ (by first | (simp; done) | (simp; omega)) (by simp)).trans (by first | exact cnone_1 | (simp [go_sem]))
          have fb7w6_1 : w6.frozen? ⟨E1.heap.size, 1, none⟩ = false := (hgrw6.frozen_far ⟨E1.heap.size, 1, none⟩ (by first | (simp; done) | (simp; omega)) (by simp)).trans (by first | exact fnone_1 | (simp [go_sem]))
          have lb7w6 : E1.heap.size < w6.heap.size := by first | omega | (simp at hzw6; omega)
          have l_ownw6 : E1.heap.size + 1 < w6.heap.size := by first | omega | (simp at hzw6; omega)
          refine hK.out _ _ (hAll.out _ hTw6) (fun hS15 => ?_)
          clear hK K
          (try go_simp)
          refine wpAnyH_ready (rs := [4]) (by kernel_rfl) (by simp) ?_
          refine (AllReadyH.cons rfl (fun K hK => ?_) AllReadyH.nil)
          go_simp
          go_wp2_with (go_at_call 47; refine Calls.mono (hG _ _ _ (Lay.at_mono (Lay.at_below hatw6 (show Below w6.heap.size w6 _ from (by repeat (first | (with_reducible assumption) | exact Below.refl _ _ | (with_reducible refine Below.alloc ?_ (by first | omega | (simp <;> omega)) _) | (with_reducible refine Below.setCell ?_ (by first | omega | (simp <;> omega)) _) | (with_reducible refine Below.drew ?_)))) (Nat.le_refl _)) (Nat.zero_le _))) ?_; rintro e w9 ⟨rfl, hb9⟩)
          have hTw9 : Below E1.heap.size E1 w9 := btS (show Below E1.heap.size E1 _ from (by repeat (first | (with_reducible assumption) | exact Below.refl _ _ | (with_reducible refine Below.alloc ?_ (by first | omega | (simp <;> omega)) _) | (with_reducible refine Below.setCell ?_ (by first | omega | (simp <;> omega)) _) | (with_reducible refine Below.drew ?_)))) (Nat.le_refl _) hb9
          have hsw9 := hTw9.size
          have hzw9 := hb9.size
          (try simp only [World.size_alloc, World.size_drew, World.size_setCell] at hzw9)
          have cb7w9_0 : w9.cell? ⟨E1.heap.size, 0, none⟩ = some (.int .i64 0) := (hb9.cell (p := ⟨E1.heap.size, 0, none⟩) (by show E1.heap.size < _; first | omega | (simp; done) | (simp; omega))).trans (by first | exact cb7w6_0 | (simp [go_sem]))
          have fb7w9_0 : w9.frozen? ⟨E1.heap.size, 0, none⟩ = false := (hb9.frozen (p := ⟨E1.heap.size, 0, none⟩) (by show E1.heap.size < _; first | omega | (simp; done) | (simp; omega))).trans (by first | exact fb7w6_0 | (simp [go_sem]))
          have cb7w9_1 : w9.cell? ⟨E1.heap.size, 1, none⟩ = some (.int .i64 0) := (hb9.cell (p := ⟨E1.heap.size, 1, none⟩) (by show E1.heap.size < _; first | omega | (simp; done) | (simp; omega))).trans (by first | exact cb7w6_1 | (simp [go_sem]))
          have fb7w9_1 : w9.frozen? ⟨E1.heap.size, 1, none⟩ = false := (hb9.frozen (p := ⟨E1.heap.size, 1, none⟩) (by show E1.heap.size < _; first | omega | (simp; done) | (simp; omega))).trans (by first | exact fb7w6_1 | (simp [go_sem]))
          have lb7w9 : E1.heap.size < w9.heap.size := by first | omega | (simp at hzw9; omega)
          have l_ownw9 : E1.heap.size + 1 < w9.heap.size := by first | omega | (simp at hzw9; omega)
          refine hK.out _ _ (hAll.out _ hTw9) (fun hS16 => ?_)
          clear hK K
          (try go_simp)
          refine wpAnyH_take (i := 5) (v := ?_) rfl (by kernel_rfl) (by kernel_rfl) (by kernel_rfl) (fun _ _ _ h => h) (Or.inl ⟨by rfl, ?_⟩) hS16 ?_
          rotate_left
          · (intro W hSw; (try dsimp only at hSw); go_split_ands; go_simp; (try with_reducible rfl))
          (try go_simp)
          refine wpAnyH_take (i := 6) (v := ?_) rfl (by kernel_rfl) (by kernel_rfl) (by kernel_rfl) (fun _ _ _ h => h) (Or.inl ⟨by rfl, ?_⟩) hS16 ?_
          rotate_left
          · (intro W hSw; (try dsimp only at hSw); go_split_ands; go_simp; (try with_reducible rfl))
          (try go_simp)
          refine wpAnyH_take (i := 7) (v := ?_) rfl (by kernel_rfl) (by kernel_rfl) (by kernel_rfl) (fun _ _ _ h => h) (Or.inl ⟨by rfl, ?_⟩) hS16 ?_
          rotate_left
          · (intro W hSw; (try dsimp only at hSw); go_split_ands; go_simp; (try with_reducible rfl))
          (try go_simp)
          refine wpAnyH_ready (rs := [9]) (by kernel_rfl) (by simp) ?_
          refine (AllReadyH.cons rfl (fun K hK => ?_) AllReadyH.nil)
          go_simp
          refine hK.out _ _ (hAll.out _ (by repeat (first | (with_reducible assumption) | exact Below.refl _ _ | (with_reducible refine Below.alloc ?_ (by first | omega | (simp <;> omega)) _) | (with_reducible refine Below.setCell ?_ (by first | omega | (simp <;> omega)) _) | (with_reducible refine Below.drew ?_)))) (fun hS17 => ?_)
          clear hK K
          (try go_simp)
          refine wpAnyH_take (i := 10) (v := ?_) rfl (by kernel_rfl) (by kernel_rfl) (by kernel_rfl) (fun _ _ _ h => h) (Or.inl ⟨by rfl, ?_⟩) hS17 ?_
          rotate_left
          · (intro W hSw; (try dsimp only at hSw); go_split_ands; go_simp; (try with_reducible rfl))
          (try go_simp)
          refine wpAnyH_done (by kernel_rfl) ?_ _
          (try go_simp)
          go_wp2_with fail
          go_meet
          exact ⟨_, rfl, rfl, by first | omega | (simp; done) | (simp; omega), by simp [go_sem, cb7w9_0, cb7w9_1, lb7w9], by simp [go_sem, cb7w9_0, cb7w9_1, lb7w9], (show Below _ _ _ from (by repeat (first | (with_reducible assumption) | exact Below.refl _ _ | (with_reducible refine Below.alloc ?_ (by first | omega | (simp <;> omega)) _) | (with_reducible refine Below.setCell ?_ (by first | omega | (simp <;> omega)) _) | (with_reducible refine Below.drew ?_))))⟩
      case rest =>
        obtain ⟨b7, rfl, rfl, l7, c70, c71, hT⟩ := hcut
        obtain ⟨wB, hWB⟩ : ∃ X, X = wc := ⟨_, rfl⟩
        subst hWB
        have hzB := hT.out.size
        replace q0 := (hT.out.cell (p := ⟨w.heap.size, 0, none⟩) (by show w.heap.size < _; omega)).trans q0
        replace q1 := (hT.out.cell (p := ⟨w.heap.size, 1, none⟩) (by show w.heap.size < _; omega)).trans q1
        replace q2 := (hT.out.cell (p := ⟨w.heap.size, 2, none⟩) (by show w.heap.size < _; omega)).trans q2
        replace q3 := (hT.out.cell (p := ⟨w.heap.size, 3, none⟩) (by show w.heap.size < _; omega)).trans q3
        replace q4 := (hT.out.cell (p := ⟨w.heap.size, 4, none⟩) (by show w.heap.size < _; omega)).trans q4
        replace q5 := (hT.out.cell (p := ⟨w.heap.size, 5, none⟩) (by show w.heap.size < _; omega)).trans q5
        replace q6 := (hT.out.cell (p := ⟨w.heap.size, 6, none⟩) (by show w.heap.size < _; omega)).trans q6
        replace q7 := (hT.out.cell (p := ⟨w.heap.size, 7, none⟩) (by show w.heap.size < _; omega)).trans q7
        replace q8 := (hT.out.cell (p := ⟨w.heap.size, 8, none⟩) (by show w.heap.size < _; omega)).trans q8
        replace q9 := (hT.out.cell (p := ⟨w.heap.size, 9, none⟩) (by show w.heap.size < _; omega)).trans q9
        replace s0 := (hT.out.cell (p := ⟨w.heap.size + 1, 0, none⟩) (by show w.heap.size + 1 < _; omega)).trans s0
        replace s1 := (hT.out.cell (p := ⟨w.heap.size + 1, 1, none⟩) (by show w.heap.size + 1 < _; omega)).trans s1
        go_wp2_with fail
        exact sums_t3 r x0 x1 lo A n cc gs w HX h0 hn hl1 hl30 bx0 bx1 wB (btS hBWE (Nat.le_refl _) hT.out) er y0 y1 HE HS (by omega) b7 l7 q0 q1 q2 q3 q4 q5 q6 q7 q8 q9 s0 s1 c70 c71

end Go.Proofs.Ytlkecgjpmnganaa
