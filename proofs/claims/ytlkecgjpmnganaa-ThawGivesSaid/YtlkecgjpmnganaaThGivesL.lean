/- ThawGives: the walk's first part (the three drawn regions). -/
import Derived.Test.YtlkecgjpmnganaaThCrop
import Derived.Test.YtlkecgjpmnganaaThCopy2
import Derived.Test.YtlkecgjpmnganaaThKnown
import Derived.Test.YtlkecgjpmnganaaSplit
import Derived.RegionTactic
import Derived.BigQuiet
import Derived.BigRegion
set_option linter.unusedSimpArgs false
set_option linter.unusedVariables false
namespace Go.Proofs.Ytlkecgjpmnganaa
open Go.RowKit Go.Shelf

theorem crop_cases (r : TR) (gs : List Gp) (x0 x1 : Int) {er ec : Int} {x y : R} (he : errG r gs = er) (hx : (if er = 0 then sumR (gs.map (giveR r)) else R.d) = x) (hy : cropS er (sumR (gs.map (giveR r))) x0 x1 = (y, ec)) :
    Aside ((er ≠ 0 ∧ y = R.d ∧ ec = er) ∨ (er = 0 ∧ (x0 < 0 ∨ (¬ x0 < 0 ∧ x1 < x0) ∨ (¬ x0 < 0 ∧ ¬ x1 < x0 ∧ 1000 < x1)) ∧ y = R.d ∧ ec = 3) ∨
      (er = 0 ∧ (¬ x0 < 0 ∧ ¬ x1 < x0 ∧ ¬ 1000 < x1) ∧ y = ⟨x.lo * x0, x.hi * x1⟩ ∧ ec = 0 ∧ wrap64 (x.lo * x0) = x.lo * x0 ∧ wrap64 (x.hi * x1) = x.hi * x1)) := by
  unfold Aside
  unfold cropS at hy
  by_cases h0 : er = 0
  · rw [if_pos h0] at hx hy
    cases hk : okH x0 x1 with
    | false =>
      rw [hk] at hy
      obtain ⟨rfl, rfl⟩ := Prod.mk.inj hy
      simp [okH, btw] at hk
      exact Or.inr (Or.inl ⟨h0, by omega, rfl, rfl⟩)
    | true =>
      rw [hk] at hy
      obtain ⟨rfl, rfl⟩ := Prod.mk.inj hy
      simp [okH, btw] at hk
      have hrr : okRules r = true := by
        cases h : okRules r with
        | true => rfl
        | false => unfold errG at he; rw [h] at he; simp at he; omega
      have hlen : ¬ 60 < gs.length := by
        intro h
        unfold errG at he
        rw [hrr, if_pos h] at he
        simp at he
        omega
      have hall : gs.all okG = true := by
        cases h : gs.all okG with
        | true => rfl
        | false => unfold errG at he; rw [hrr, if_neg hlen, h] at he; simp at he; omega
      have hb := sum_bd ((okRules_iff r).1 hrr) gs (fun g hg => List.all_eq_true.1 hall g hg)
      rw [hx] at hb ⊢
      have p1 : 0 ≤ x.lo * x0 := Int.mul_nonneg hb.1 (by omega)
      have p2 : x.lo * x0 ≤ 606000000000 * 1000 := Int.mul_le_mul (by omega) (by omega) (by omega) (by omega)
      have p3 : 0 ≤ x.hi * x1 := Int.mul_nonneg (by omega) (by omega)
      have p4 : x.hi * x1 ≤ 606000000000 * 1000 := Int.mul_le_mul (by omega) (by omega) (by omega) (by omega)
      exact Or.inr (Or.inr ⟨h0, by omega, rfl, rfl, IntWalk.wrap64_in _ ⟨by omega, by omega⟩, IntWalk.wrap64_in _ ⟨by omega, by omega⟩⟩)
  · rw [if_neg h0] at hy
    obtain ⟨rfl, rfl⟩ := Prod.mk.inj hy
    exact Or.inl ⟨h0, rfl, rfl⟩

theorem miss_cases {x0 x2 x3 em : Int} {m : R} (h : missS x2 x3 x0 = (m, em)) :
    Aside ((x2 < 0 ∧ m = R.d ∧ em = 2) ∨ (¬ x2 < 0 ∧ x3 < x2 ∧ m = R.d ∧ em = 2) ∨ (¬ x2 < 0 ∧ ¬ x3 < x2 ∧ 1000000000000000 < x3 ∧ m = R.d ∧ em = 2) ∨
      ((¬ x2 < 0 ∧ ¬ x3 < x2 ∧ ¬ 1000000000000000 < x3) ∧ ((x0 < 0 ∧ m = R.d ∧ em = 3) ∨ (¬ x0 < 0 ∧ 1000000000000000 < x0 ∧ m = R.d ∧ em = 3) ∨ (¬ x0 < 0 ∧ ¬ 1000000000000000 < x0 ∧ x3 < x0 ∧ m = R.d ∧ em = 9) ∨
        (¬ x0 < 0 ∧ ¬ 1000000000000000 < x0 ∧ ¬ x3 < x0 ∧ m = ⟨max 0 (x2 - x0), x3 - x0⟩ ∧ em = 0 ∧ wrap64 (x2 - x0) = x2 - x0 ∧ wrap64 (x3 - x0) = x3 - x0)))) := by
  unfold Aside
  unfold missS at h
  split at h
  · rename_i h1
    obtain ⟨rfl, rfl⟩ := Prod.mk.inj h
    simp [btw] at h1
    by_cases a : x2 < 0
    · exact Or.inl ⟨a, rfl, rfl⟩
    · by_cases b : x3 < x2
      · exact Or.inr (Or.inl ⟨a, b, rfl, rfl⟩)
      · exact Or.inr (Or.inr (Or.inl ⟨a, b, by omega, rfl, rfl⟩))
  · rename_i h1
    simp [btw] at h1
    refine Or.inr (Or.inr (Or.inr ⟨by omega, ?_⟩))
    split at h
    · rename_i h2
      obtain ⟨rfl, rfl⟩ := Prod.mk.inj h
      simp [btw] at h2
      by_cases a : x0 < 0
      · exact Or.inl ⟨a, rfl, rfl⟩
      · exact Or.inr (Or.inl ⟨a, by omega, rfl, rfl⟩)
    · rename_i h2
      simp [btw] at h2
      split at h
      · rename_i h3
        obtain ⟨rfl, rfl⟩ := Prod.mk.inj h
        exact Or.inr (Or.inr (Or.inl ⟨by omega, by omega, by omega, rfl, rfl⟩))
      · rename_i h3
        obtain ⟨rfl, rfl⟩ := Prod.mk.inj h
        exact Or.inr (Or.inr (Or.inr ⟨by omega, by omega, by omega, rfl, rfl, IntWalk.wrap64_in _ ⟨by omega, by omega⟩, IntWalk.wrap64_in _ ⟨by omega, by omega⟩⟩))

noncomputable def tail5 : Code := dropC 5 (bodyC Try.f12)
set_option maxRecDepth 100000 in
set_option maxHeartbeats 4000000 in
theorem gives_t5 {z0 z2 z4 z6 z13 z14 z15 z16 z17 z18 z19 z20 z21 z22 z23 z24 z25 z26 z27 z28 z29 z30 z31 z32 z33 z34 z35 z36 z37 z38 z39 z40 z41 z42 z43 z44 z45 z46 z47 z48 z49 z50 z51 z52 z53 z54 z55 z56 z57 z58 z59 z60 z61 z62 z63 z64 z65 z66 z67 z68 z69 z70 z71 z72 z73 z74 z75 z76 z77 z78 z79 z80 z81 z82 z83 z84 z85 z86 z87 z88 z89 z90 z91 z92 z93 z94 z95 z96 z97 z98 z99 z100 z101 z102 z103 z104 z105 z106 z107 z108 z109 z110 z111 z112 z113 z114 z115 z116 z117 z118 z119 z120 z121 z122 z123 z124 z125 z126 z127 z128 z129 z130 z131 z132 z133 z134 z135 z136 z137 z138 z139 z140 z141 z142 z143 z144 z145 z146 z147 z148 z149 z150 z151 z152 z153 z154 z155 z156 z157 z158 z159 z160 z161 z162 z163 z164 z165 z166 z167 z168 z169 z170 z171 z172 z173 z174 z175 z176 z177 z178 z179 z180 z181 z182 z183 z184 z185 z186 z187 z188 z189 z190 z191 z192 z193 z194 z195 z196 z197 : Value} (r : TR) (x0 x1 x2 x3 : Int) (lo : Nat) (A : Option Addr) (n cc : Nat) (gs : List Gp) (w : World) (HX : Aside (gpL.at w lo A gs)) (h0 : A = none → n = 0 ∧ cc = 0) (hn : Aside (gs.length = n)) (hl : n ≤ maxLen) (hz70 : ¬ (70 : Int) < (n : Int)) (x y : R) (er ec : Int) (Her : Aside (errG r gs = er)) (Hxx : Aside ((if er = 0 then sumR (gs.map (giveR r)) else R.d) = x)) (Hyy : Aside (cropS er (sumR (gs.map (giveR r))) x0 x1 = (y, ec))) (wC : World) (hA0 : w.heap.size < wC.heap.size) (hA1 : w.heap.size + 1 < wC.heap.size) (hBA : Below w.heap.size w wC) (q0 : wC.cell? ⟨w.heap.size, 0, none⟩ = some (.int .i64 r.frost)) (q1 : wC.cell? ⟨w.heap.size, 1, none⟩ = some (.int .i64 r.thaw)) (q2 : wC.cell? ⟨w.heap.size, 2, none⟩ = some (.int .i64 r.gain)) (q3 : wC.cell? ⟨w.heap.size, 3, none⟩ = some (.int .i64 r.full)) (q4 : wC.cell? ⟨w.heap.size, 4, none⟩ = some (.int .i64 r.ice)) (q5 : wC.cell? ⟨w.heap.size, 5, none⟩ = some (.int .i64 r.most)) (q6 : wC.cell? ⟨w.heap.size, 6, none⟩ = some (.int .i64 r.melt)) (q7 : wC.cell? ⟨w.heap.size, 7, none⟩ = some (.int .i64 r.rlow)) (q8 : wC.cell? ⟨w.heap.size, 8, none⟩ = some (.int .i64 r.rhigh)) (q9 : wC.cell? ⟨w.heap.size, 9, none⟩ = some (.int .i64 r.pull)) (s0 : wC.cell? ⟨w.heap.size + 1, 0, none⟩ = some (.int .i64 x0)) (s1 : wC.cell? ⟨w.heap.size + 1, 1, none⟩ = some (.int .i64 x1)) (s2 : wC.cell? ⟨w.heap.size + 1, 2, none⟩ = some (.int .i64 x2)) (s3 : wC.cell? ⟨w.heap.size + 1, 3, none⟩ = some (.int .i64 x3)) (b7 b8 : Nat) (l7 : b7 < wC.heap.size) (l8 : b8 < wC.heap.size) (c70 : wC.cell? ⟨b7, 0, none⟩ = some (.int .i64 x0)) (c71 : wC.cell? ⟨b7, 1, none⟩ = some (.int .i64 x1)) (c80 : wC.cell? ⟨b8, 0, none⟩ = some (.int .i64 x2)) (c81 : wC.cell? ⟨b8, 1, none⟩ = some (.int .i64 x3)) (b9 : Nat) (l9 : b9 < wC.heap.size) (c90 : wC.cell? ⟨b9, 0, none⟩ = some (.int .i64 x.lo)) (c91 : wC.cell? ⟨b9, 1, none⟩ = some (.int .i64 x.hi)) (b11 : Nat) (l11 : b11 < wC.heap.size) (d0 : wC.cell? ⟨b11, 0, none⟩ = some (.int .i64 y.lo)) (d1 : wC.cell? ⟨b11, 1, none⟩ = some (.int .i64 y.hi)) :
    Code.wp Try.prog tail5 (bodyPost Try.prog Try.f12 fun e w' => e = .returned (.bool true) ∧ Below w.heap.size w w') ⟨List.toArray (z0 :: .slice A n cc :: z2 :: .pointer (some ⟨w.heap.size, 0, none⟩) :: z4 :: .pointer (some ⟨w.heap.size + 1, 0, none⟩) :: z6 :: .pointer (some ⟨b7, 0, none⟩) :: .pointer (some ⟨b8, 0, none⟩) :: .pointer (some ⟨b9, 0, none⟩) :: .int .i64 er :: .pointer (some ⟨b11, 0, none⟩) :: .int .i64 ec :: z13 :: z14 :: z15 :: z16 :: z17 :: z18 :: z19 :: z20 :: z21 :: z22 :: z23 :: z24 :: z25 :: z26 :: z27 :: z28 :: z29 :: z30 :: z31 :: z32 :: z33 :: z34 :: z35 :: z36 :: z37 :: z38 :: z39 :: z40 :: z41 :: z42 :: z43 :: z44 :: z45 :: z46 :: z47 :: z48 :: z49 :: z50 :: z51 :: z52 :: z53 :: z54 :: z55 :: z56 :: z57 :: z58 :: z59 :: z60 :: z61 :: z62 :: z63 :: z64 :: z65 :: z66 :: z67 :: z68 :: z69 :: z70 :: z71 :: z72 :: z73 :: z74 :: z75 :: z76 :: z77 :: z78 :: z79 :: z80 :: z81 :: z82 :: z83 :: z84 :: z85 :: z86 :: z87 :: z88 :: z89 :: z90 :: z91 :: z92 :: z93 :: z94 :: z95 :: z96 :: z97 :: z98 :: z99 :: z100 :: z101 :: z102 :: z103 :: z104 :: z105 :: z106 :: z107 :: z108 :: z109 :: z110 :: z111 :: z112 :: z113 :: z114 :: z115 :: z116 :: z117 :: z118 :: z119 :: z120 :: z121 :: z122 :: z123 :: z124 :: z125 :: z126 :: z127 :: z128 :: z129 :: z130 :: z131 :: z132 :: z133 :: z134 :: z135 :: z136 :: z137 :: z138 :: z139 :: z140 :: z141 :: z142 :: z143 :: z144 :: z145 :: z146 :: z147 :: z148 :: z149 :: z150 :: z151 :: z152 :: z153 :: z154 :: z155 :: z156 :: z157 :: z158 :: z159 :: z160 :: z161 :: z162 :: z163 :: z164 :: z165 :: z166 :: z167 :: z168 :: z169 :: z170 :: z171 :: z172 :: z173 :: z174 :: z175 :: z176 :: z177 :: z178 :: z179 :: z180 :: z181 :: z182 :: z183 :: z184 :: z185 :: z186 :: z187 :: z188 :: z189 :: z190 :: z191 :: z192 :: z193 :: z194 :: z195 :: z196 :: z197 :: []), []⟩ wC := by
  have hkn := fun (W : World) => known_any W
  obtain ⟨i5, hi5, hz5, hs5, hb5⟩ := info_parts (show (Try.prog.info? 102).map (fun i => (i.zero, i.size, i.bytes)) = some (some (.agg #[.int .i64 0, .int .i64 0, .int .i64 0]), 3, 24) by kernel_rfl)
  conv => arg 2; simp only [tail5, bodyC, Try.f12, Option.getD_some, dropC, mkC]
  have hG := True.intro
  have hC := True.intro
  have hM := fun W => missing_any x2 x3 x0 W
  obtain ⟨⟨m, em⟩, hmm⟩ : ∃ y, missS x2 x3 x0 = y := ⟨_, rfl⟩
  rw [hmm] at hM
  simp only [R.val] at hM
  go_upto_region 6 with (fail)
  go_wp2_with fail
  refine (hM _).mono ?_
  rintro e wD ⟨rfl, hbD⟩
  have hzD := hbD.size
  replace q0 := (hbD.cell hA0).trans q0
  replace q1 := (hbD.cell hA0).trans q1
  replace q2 := (hbD.cell hA0).trans q2
  replace q3 := (hbD.cell hA0).trans q3
  replace q4 := (hbD.cell hA0).trans q4
  replace q5 := (hbD.cell hA0).trans q5
  replace q6 := (hbD.cell hA0).trans q6
  replace q7 := (hbD.cell hA0).trans q7
  replace q8 := (hbD.cell hA0).trans q8
  replace q9 := (hbD.cell hA0).trans q9
  replace s0 := (hbD.cell hA1).trans s0
  replace s1 := (hbD.cell hA1).trans s1
  replace s2 := (hbD.cell hA1).trans s2
  replace s3 := (hbD.cell hA1).trans s3
  replace c70 := (hbD.cell l7).trans c70
  replace c71 := (hbD.cell l7).trans c71
  replace c80 := (hbD.cell l8).trans c80
  replace c81 := (hbD.cell l8).trans c81
  replace c90 := (hbD.cell l9).trans c90
  replace c91 := (hbD.cell l9).trans c91
  replace d0 := (hbD.cell l11).trans d0
  replace d1 := (hbD.cell l11).trans d1
  replace hA0 : w.heap.size < wD.heap.size := by omega
  replace hA1 : w.heap.size + 1 < wD.heap.size := by omega
  replace l7 : b7 < wD.heap.size := by omega
  replace l8 : b8 < wD.heap.size := by omega
  replace l9 : b9 < wD.heap.size := by omega
  have l11' : b11 < wD.heap.size := by omega
  have hBD : Below w.heap.size w wD := hBA.trans (hbD.mono hBA.size)
  have hRG := fun W (hb : Below w.heap.size w W) => refGives_any r lo A n cc gs W (Lay.at_below HX.out hb (Nat.le_refl _)) hn hl
  rw [Her.out, Hxx.out, show rV r = .agg #[.int .i64 r.frost, .int .i64 r.thaw, .int .i64 r.gain, .int .i64 r.full, .int .i64 r.ice, .int .i64 r.most, .int .i64 r.melt, .int .i64 r.rlow, .int .i64 r.rhigh, .int .i64 r.pull] from rfl] at hRG
  unfold GivesPost at hRG
  have HY : Aside ((er ≠ 0 ∧ y = R.d ∧ ec = er) ∨ (er = 0 ∧ (x0 < 0 ∨ (¬ x0 < 0 ∧ x1 < x0) ∨ (¬ x0 < 0 ∧ ¬ x1 < x0 ∧ 1000 < x1)) ∧ y = R.d ∧ ec = 3) ∨
      (er = 0 ∧ (¬ x0 < 0 ∧ ¬ x1 < x0 ∧ ¬ 1000 < x1) ∧ y = ⟨x.lo * x0, x.hi * x1⟩ ∧ ec = 0 ∧ wrap64 (x.lo * x0) = x.lo * x0 ∧ wrap64 (x.hi * x1) = x.hi * x1)) := crop_cases r gs x0 x1 Her.out Hxx.out Hyy.out
  have HMM : Aside ((x2 < 0 ∧ m = R.d ∧ em = 2) ∨ (¬ x2 < 0 ∧ x3 < x2 ∧ m = R.d ∧ em = 2) ∨ (¬ x2 < 0 ∧ ¬ x3 < x2 ∧ 1000000000000000 < x3 ∧ m = R.d ∧ em = 2) ∨
      ((¬ x2 < 0 ∧ ¬ x3 < x2 ∧ ¬ 1000000000000000 < x3) ∧ ((x0 < 0 ∧ m = R.d ∧ em = 3) ∨ (¬ x0 < 0 ∧ 1000000000000000 < x0 ∧ m = R.d ∧ em = 3) ∨ (¬ x0 < 0 ∧ ¬ 1000000000000000 < x0 ∧ x3 < x0 ∧ m = R.d ∧ em = 9) ∨
        (¬ x0 < 0 ∧ ¬ 1000000000000000 < x0 ∧ ¬ x3 < x0 ∧ m = ⟨max 0 (x2 - x0), x3 - x0⟩ ∧ em = 0 ∧ wrap64 (x2 - x0) = x2 - x0 ∧ wrap64 (x3 - x0) = x3 - x0)))) := miss_cases hmm
  clear hM hG hC hmm
  go_upto_block 0 with fail
  go_cut [14] (fun v14 wx => v14 = .int .i64 em ∧ Aside (Below wD.heap.size wD wx))
  case first =>
    rcases HMM.out with ⟨a1, rfl, rfl⟩ | ⟨a1, a2, rfl, rfl⟩ | ⟨a1, a2, a3, rfl, rfl⟩ | ⟨⟨a1, a2, a3⟩, ⟨a4, rfl, rfl⟩ | ⟨a4, a5, rfl, rfl⟩ | ⟨a4, a5, a6, rfl, rfl⟩ | ⟨a4, a5, a6, rfl, rfl, v1', v2'⟩⟩
    all_goals
      go_wp2_with fail
      go_meet
      exact ⟨rfl, (by (try show Below _ _ _); repeat (first | (with_reducible refine Below.setCell ?_ (by first | omega | (simp <;> omega)) _) | (with_reducible refine Below.alloc ?_ (by first | omega | (simp <;> omega)) _) | (with_reducible refine Below.drew ?_) | (with_reducible exact Below.refl _ _) | (with_reducible refine below_call ?_ (by assumption) (by first | omega | (simp <;> omega))) | (with_reducible refine below_call ?_ (Drew.below (by assumption) _) (by first | omega | (simp <;> omega)))))⟩
  case rest =>
    obtain ⟨rfl, hT6⟩ := hcut
    obtain ⟨wH, hWH⟩ : ∃ wH, wH = wc := ⟨_, rfl⟩
    subst hWH
    have hHs := hT6.out.size
    replace q0 := (hT6.out.cell hA0).trans q0
    replace q1 := (hT6.out.cell hA0).trans q1
    replace q2 := (hT6.out.cell hA0).trans q2
    replace q3 := (hT6.out.cell hA0).trans q3
    replace q4 := (hT6.out.cell hA0).trans q4
    replace q5 := (hT6.out.cell hA0).trans q5
    replace q6 := (hT6.out.cell hA0).trans q6
    replace q7 := (hT6.out.cell hA0).trans q7
    replace q8 := (hT6.out.cell hA0).trans q8
    replace q9 := (hT6.out.cell hA0).trans q9
    replace c70 := (hT6.out.cell l7).trans c70
    replace c71 := (hT6.out.cell l7).trans c71
    replace c90 := (hT6.out.cell l9).trans c90
    replace c91 := (hT6.out.cell l9).trans c91
    replace d0 := (hT6.out.cell l11').trans d0
    replace d1 := (hT6.out.cell l11').trans d1
    replace l7 : b7 < wH.heap.size := by omega
    replace l9 : b9 < wH.heap.size := by omega
    replace l11' : b11 < wH.heap.size := by omega
    replace hBD : Below w.heap.size w wH := hBD.trans (hT6.out.mono (by omega))
    go_wp2_with fail
    refine Calls.mono (hRG _ ?_) ?_
    · exact hBD
    rintro e wE ⟨rfl, hbE⟩
    have hzE := hbE.size
    have hTE : Below wH.heap.size wH wE := hbE
    replace c70 := (hTE.cell l7).trans c70
    replace c71 := (hTE.cell l7).trans c71
    replace c90 := (hTE.cell l9).trans c90
    replace c91 := (hTE.cell l9).trans c91
    replace d0 := (hTE.cell l11').trans d0
    replace d1 := (hTE.cell l11').trans d1
    have l7' : b7 < wE.heap.size := by omega
    have l9' : b9 < wE.heap.size := by omega
    have l12 : b11 < wE.heap.size := by omega
    have hBE : Below w.heap.size w wE := hBD.trans (hTE.mono (by omega))
    rcases HY.out with ⟨ne, rfl, rfl⟩ | ⟨rfl, hc, rfl, rfl⟩ | ⟨rfl, hh, hy, rfl, w1', w2'⟩
    · go_wp2_with fail
      refine (hkn _).mono ?_
      rintro e w9 ⟨rfl, hb9⟩
      go_wp2
      go_ret
      exact ⟨rfl, (hBE.alloc hBE.size _).trans (hb9.mono (by simp; omega))⟩
    · rcases hc with h1 | ⟨h1, h2⟩ | ⟨h1, h2, h3⟩
      all_goals
        go_wp2_with fail
        refine (hkn _).mono ?_
        rintro e w9 ⟨rfl, hb9⟩
        go_wp2
        go_ret
        exact ⟨rfl, (hBE.alloc hBE.size _).trans (hb9.mono (by simp; omega))⟩
    · obtain ⟨h1, h2, h3⟩ := hh
      go_wp2_with fail
      refine (hkn _).mono ?_
      rintro e w9 ⟨rfl, hb9⟩
      go_wp2
      go_ret
      exact ⟨rfl, (hBE.alloc hBE.size _).trans (hb9.mono (by simp; omega))⟩

noncomputable def tail4 : Code := dropC 4 (bodyC Try.f12)
set_option maxRecDepth 100000 in
set_option maxHeartbeats 4000000 in
theorem gives_t4 {z0 z2 z4 z6 z11 z12 z13 z14 z15 z16 z17 z18 z19 z20 z21 z22 z23 z24 z25 z26 z27 z28 z29 z30 z31 z32 z33 z34 z35 z36 z37 z38 z39 z40 z41 z42 z43 z44 z45 z46 z47 z48 z49 z50 z51 z52 z53 z54 z55 z56 z57 z58 z59 z60 z61 z62 z63 z64 z65 z66 z67 z68 z69 z70 z71 z72 z73 z74 z75 z76 z77 z78 z79 z80 z81 z82 z83 z84 z85 z86 z87 z88 z89 z90 z91 z92 z93 z94 z95 z96 z97 z98 z99 z100 z101 z102 z103 z104 z105 z106 z107 z108 z109 z110 z111 z112 z113 z114 z115 z116 z117 z118 z119 z120 z121 z122 z123 z124 z125 z126 z127 z128 z129 z130 z131 z132 z133 z134 z135 z136 z137 z138 z139 z140 z141 z142 z143 z144 z145 z146 z147 z148 z149 z150 z151 z152 z153 z154 z155 z156 z157 z158 z159 z160 z161 z162 z163 z164 z165 z166 z167 z168 z169 z170 z171 z172 z173 z174 z175 z176 z177 z178 z179 z180 z181 z182 z183 z184 z185 z186 z187 z188 z189 z190 z191 z192 z193 z194 z195 z196 z197 : Value} (r : TR) (x0 x1 x2 x3 : Int) (lo : Nat) (A : Option Addr) (n cc : Nat) (gs : List Gp) (w : World) (HX : Aside (gpL.at w lo A gs)) (h0 : A = none → n = 0 ∧ cc = 0) (hn : Aside (gs.length = n)) (hl : n ≤ maxLen) (hz70 : ¬ (70 : Int) < (n : Int)) (x y : R) (er ec : Int) (Her : Aside (errG r gs = er)) (Hxx : Aside ((if er = 0 then sumR (gs.map (giveR r)) else R.d) = x)) (Hyy : Aside (cropS er (sumR (gs.map (giveR r))) x0 x1 = (y, ec))) (wB : World) (hA0 : w.heap.size < wB.heap.size) (hA1 : w.heap.size + 1 < wB.heap.size) (hBA : Below w.heap.size w wB) (q0 : wB.cell? ⟨w.heap.size, 0, none⟩ = some (.int .i64 r.frost)) (q1 : wB.cell? ⟨w.heap.size, 1, none⟩ = some (.int .i64 r.thaw)) (q2 : wB.cell? ⟨w.heap.size, 2, none⟩ = some (.int .i64 r.gain)) (q3 : wB.cell? ⟨w.heap.size, 3, none⟩ = some (.int .i64 r.full)) (q4 : wB.cell? ⟨w.heap.size, 4, none⟩ = some (.int .i64 r.ice)) (q5 : wB.cell? ⟨w.heap.size, 5, none⟩ = some (.int .i64 r.most)) (q6 : wB.cell? ⟨w.heap.size, 6, none⟩ = some (.int .i64 r.melt)) (q7 : wB.cell? ⟨w.heap.size, 7, none⟩ = some (.int .i64 r.rlow)) (q8 : wB.cell? ⟨w.heap.size, 8, none⟩ = some (.int .i64 r.rhigh)) (q9 : wB.cell? ⟨w.heap.size, 9, none⟩ = some (.int .i64 r.pull)) (s0 : wB.cell? ⟨w.heap.size + 1, 0, none⟩ = some (.int .i64 x0)) (s1 : wB.cell? ⟨w.heap.size + 1, 1, none⟩ = some (.int .i64 x1)) (s2 : wB.cell? ⟨w.heap.size + 1, 2, none⟩ = some (.int .i64 x2)) (s3 : wB.cell? ⟨w.heap.size + 1, 3, none⟩ = some (.int .i64 x3)) (b7 b8 : Nat) (l7 : b7 < wB.heap.size) (l8 : b8 < wB.heap.size) (c70 : wB.cell? ⟨b7, 0, none⟩ = some (.int .i64 x0)) (c71 : wB.cell? ⟨b7, 1, none⟩ = some (.int .i64 x1)) (c80 : wB.cell? ⟨b8, 0, none⟩ = some (.int .i64 x2)) (c81 : wB.cell? ⟨b8, 1, none⟩ = some (.int .i64 x3)) (b9 : Nat) (l9 : b9 < wB.heap.size) (c90 : wB.cell? ⟨b9, 0, none⟩ = some (.int .i64 x.lo)) (c91 : wB.cell? ⟨b9, 1, none⟩ = some (.int .i64 x.hi)) :
    Code.wp Try.prog tail4 (bodyPost Try.prog Try.f12 fun e w' => e = .returned (.bool true) ∧ Below w.heap.size w w') ⟨List.toArray (z0 :: .slice A n cc :: z2 :: .pointer (some ⟨w.heap.size, 0, none⟩) :: z4 :: .pointer (some ⟨w.heap.size + 1, 0, none⟩) :: z6 :: .pointer (some ⟨b7, 0, none⟩) :: .pointer (some ⟨b8, 0, none⟩) :: .pointer (some ⟨b9, 0, none⟩) :: .int .i64 er :: z11 :: z12 :: z13 :: z14 :: z15 :: z16 :: z17 :: z18 :: z19 :: z20 :: z21 :: z22 :: z23 :: z24 :: z25 :: z26 :: z27 :: z28 :: z29 :: z30 :: z31 :: z32 :: z33 :: z34 :: z35 :: z36 :: z37 :: z38 :: z39 :: z40 :: z41 :: z42 :: z43 :: z44 :: z45 :: z46 :: z47 :: z48 :: z49 :: z50 :: z51 :: z52 :: z53 :: z54 :: z55 :: z56 :: z57 :: z58 :: z59 :: z60 :: z61 :: z62 :: z63 :: z64 :: z65 :: z66 :: z67 :: z68 :: z69 :: z70 :: z71 :: z72 :: z73 :: z74 :: z75 :: z76 :: z77 :: z78 :: z79 :: z80 :: z81 :: z82 :: z83 :: z84 :: z85 :: z86 :: z87 :: z88 :: z89 :: z90 :: z91 :: z92 :: z93 :: z94 :: z95 :: z96 :: z97 :: z98 :: z99 :: z100 :: z101 :: z102 :: z103 :: z104 :: z105 :: z106 :: z107 :: z108 :: z109 :: z110 :: z111 :: z112 :: z113 :: z114 :: z115 :: z116 :: z117 :: z118 :: z119 :: z120 :: z121 :: z122 :: z123 :: z124 :: z125 :: z126 :: z127 :: z128 :: z129 :: z130 :: z131 :: z132 :: z133 :: z134 :: z135 :: z136 :: z137 :: z138 :: z139 :: z140 :: z141 :: z142 :: z143 :: z144 :: z145 :: z146 :: z147 :: z148 :: z149 :: z150 :: z151 :: z152 :: z153 :: z154 :: z155 :: z156 :: z157 :: z158 :: z159 :: z160 :: z161 :: z162 :: z163 :: z164 :: z165 :: z166 :: z167 :: z168 :: z169 :: z170 :: z171 :: z172 :: z173 :: z174 :: z175 :: z176 :: z177 :: z178 :: z179 :: z180 :: z181 :: z182 :: z183 :: z184 :: z185 :: z186 :: z187 :: z188 :: z189 :: z190 :: z191 :: z192 :: z193 :: z194 :: z195 :: z196 :: z197 :: []), []⟩ wB := by
  have hkn := fun (W : World) => known_any W
  obtain ⟨i5, hi5, hz5, hs5, hb5⟩ := info_parts (show (Try.prog.info? 102).map (fun i => (i.zero, i.size, i.bytes)) = some (some (.agg #[.int .i64 0, .int .i64 0, .int .i64 0]), 3, 24) by kernel_rfl)
  have hR : tail5 = dropC 1 tail4 := (dropC_add 1 4 _).symm
  refine wp_tail 1 hR ?_
  conv => arg 2; simp only [tail4, bodyC, Try.f12, Option.getD_some, dropC, mkC]
  have hC := fun A' c' (W : World) (h : gpL.at W 0 A' gs) => crop_any r 0 A' n c' gs x0 x1 W h hn hl
  rw [Her.out, Hyy.out, show rV r = .agg #[.int .i64 r.frost, .int .i64 r.thaw, .int .i64 r.gain, .int .i64 r.full, .int .i64 r.ice, .int .i64 r.most, .int .i64 r.melt, .int .i64 r.rlow, .int .i64 r.rhigh, .int .i64 r.pull] from rfl] at hC
  unfold GivesPost at hC
  simp only at hC
  go_upto_region 5 with (fail)
  go_cut [11, 12] (fun v9 v10 wx => ∃ b9 : Nat, v9 = .pointer (some ⟨b9, 0, none⟩) ∧ v10 = .int .i64 ec ∧ wB.heap.size ≤ b9 ∧ b9 < wx.heap.size ∧ wx.cell? ⟨b9, 0, none⟩ = some (.int .i64 y.lo) ∧ wx.cell? ⟨b9, 1, none⟩ = some (.int .i64 y.hi) ∧ Aside (Below wB.heap.size wB wx))
  case first =>
    have hAll : Aside (∀ W, Below wB.heap.size wB W → (Below wB.heap.size wB W
      ∧ W.cell? ⟨w.heap.size, 0, none⟩ = some (.int .i64 r.frost)
      ∧ W.cell? ⟨w.heap.size, 1, none⟩ = some (.int .i64 r.thaw)
      ∧ W.cell? ⟨w.heap.size, 2, none⟩ = some (.int .i64 r.gain)
      ∧ W.cell? ⟨w.heap.size, 3, none⟩ = some (.int .i64 r.full)
      ∧ W.cell? ⟨w.heap.size, 4, none⟩ = some (.int .i64 r.ice)
      ∧ W.cell? ⟨w.heap.size, 5, none⟩ = some (.int .i64 r.most)
      ∧ W.cell? ⟨w.heap.size, 6, none⟩ = some (.int .i64 r.melt)
      ∧ W.cell? ⟨w.heap.size, 7, none⟩ = some (.int .i64 r.rlow)
      ∧ W.cell? ⟨w.heap.size, 8, none⟩ = some (.int .i64 r.rhigh)
      ∧ W.cell? ⟨w.heap.size, 9, none⟩ = some (.int .i64 r.pull)
      ∧ W.cell? ⟨b7, 0, none⟩ = some (.int .i64 x0)
      ∧ W.cell? ⟨b7, 1, none⟩ = some (.int .i64 x1)

    )) := fun W h => ⟨h
      , (h.cell (p := ⟨w.heap.size, 0, none⟩) hA0).trans q0
      , (h.cell (p := ⟨w.heap.size, 1, none⟩) hA0).trans q1
      , (h.cell (p := ⟨w.heap.size, 2, none⟩) hA0).trans q2
      , (h.cell (p := ⟨w.heap.size, 3, none⟩) hA0).trans q3
      , (h.cell (p := ⟨w.heap.size, 4, none⟩) hA0).trans q4
      , (h.cell (p := ⟨w.heap.size, 5, none⟩) hA0).trans q5
      , (h.cell (p := ⟨w.heap.size, 6, none⟩) hA0).trans q6
      , (h.cell (p := ⟨w.heap.size, 7, none⟩) hA0).trans q7
      , (h.cell (p := ⟨w.heap.size, 8, none⟩) hA0).trans q8
      , (h.cell (p := ⟨w.heap.size, 9, none⟩) hA0).trans q9
      , (h.cell (p := ⟨b7, 0, none⟩) l7).trans c70
      , (h.cell (p := ⟨b7, 1, none⟩) l7).trans c71

    ⟩
    refine wp_region_held_drew (S := fun W => Below wB.heap.size wB W
      ∧ W.cell? ⟨w.heap.size, 0, none⟩ = some (.int .i64 r.frost)
      ∧ W.cell? ⟨w.heap.size, 1, none⟩ = some (.int .i64 r.thaw)
      ∧ W.cell? ⟨w.heap.size, 2, none⟩ = some (.int .i64 r.gain)
      ∧ W.cell? ⟨w.heap.size, 3, none⟩ = some (.int .i64 r.full)
      ∧ W.cell? ⟨w.heap.size, 4, none⟩ = some (.int .i64 r.ice)
      ∧ W.cell? ⟨w.heap.size, 5, none⟩ = some (.int .i64 r.most)
      ∧ W.cell? ⟨w.heap.size, 6, none⟩ = some (.int .i64 r.melt)
      ∧ W.cell? ⟨w.heap.size, 7, none⟩ = some (.int .i64 r.rlow)
      ∧ W.cell? ⟨w.heap.size, 8, none⟩ = some (.int .i64 r.rhigh)
      ∧ W.cell? ⟨w.heap.size, 9, none⟩ = some (.int .i64 r.pull)
      ∧ W.cell? ⟨b7, 0, none⟩ = some (.int .i64 x0)
      ∧ W.cell? ⟨b7, 1, none⟩ = some (.int .i64 x1)

    ) (by kernel_rfl) (hAll.out _ ((Below.refl _ _).drew)) (fun hS0 => ?_)
    (try go_simp)
    refine wpAnyH_take (i := 0) (v := ?_) rfl (by kernel_rfl) (by kernel_rfl) (by kernel_rfl) (fun _ _ _ h => h) (Or.inl ⟨by rfl, ?_⟩) hS0 ?_
    rotate_left
    · (intro W hSw; (try dsimp only at hSw); go_split_ands; go_simp; (try with_reducible rfl))
    (try go_simp)
    (try go_simp)
    refine wpAnyH_take (i := 2) (v := ?_) rfl (by kernel_rfl) (by kernel_rfl) (by kernel_rfl) (fun _ _ _ h => h) (Or.inl ⟨by rfl, ?_⟩) hS0 ?_
    rotate_left
    · (intro W hSw; (try dsimp only at hSw); go_split_ands; go_simp; (try with_reducible rfl))
    (try go_simp)
    (try go_simp)
    refine wpAnyH_take (i := 4) (v := ?_) rfl (by kernel_rfl) (by kernel_rfl) (by kernel_rfl) (fun _ _ _ h => h) (Or.inl ⟨by rfl, ?_⟩) hS0 ?_
    rotate_left
    · (intro W hSw; (try dsimp only at hSw); go_split_ands; go_simp; (try with_reducible rfl))
    (try go_simp)
    refine wpAnyH_ready (rs := [1, 9]) (by kernel_rfl) (by simp) ?_
    refine (AllReadyH.cons rfl (fun K hK => ?_) (AllReadyH.cons rfl (fun K hK => ?_) AllReadyH.nil))
    · go_simp
      refine hK.out _ _ (hAll.out _ (by repeat (first | (with_reducible assumption) | exact Below.refl _ _ | (with_reducible refine Below.alloc ?_ (by first | omega | (simp <;> omega)) _) | (with_reducible refine Below.setCell ?_ (by first | omega | (simp <;> omega)) _) | (with_reducible refine Below.drew ?_)))) (fun hS1 => ?_)
      clear hK K
      (try go_simp)
      refine wpAnyH_ready (rs := [3, 9]) (by kernel_rfl) (by simp) ?_
      refine (AllReadyH.cons rfl (fun K hK => ?_) (AllReadyH.cons rfl (fun K hK => ?_) AllReadyH.nil))
      · skip
        refine step_append_copy gpL rfl _ _ _ (by rfl) 102 i5 _ 24 Try.underlying93 hi5 hz5 hs5 hb5 rfl _ (by rfl) (by first | exact (ownsRow_emptyK wB _ 3).drew | exact ownsRow_emptyK wB _ 3) A n cc lo gs (by rfl) (Lay.at_below HX.out (hBA.trans (Below.mono (show Below wB.heap.size wB _ from (by repeat (first | (with_reducible assumption) | exact Below.refl _ _ | (with_reducible refine Below.alloc ?_ (by first | omega | (simp <;> omega)) _) | (with_reducible refine Below.setCell ?_ (by first | omega | (simp <;> omega)) _) | (with_reducible refine Below.drew ?_)))) (by omega))) (Nat.le_refl _)) hn.out h0 hl (by omega) (by first | (simp; done) | (simp; omega)) ?_
        intro A6 c6 w6 hat6 hgr6 hn6 hm6
        have hT6 : Below wB.heap.size wB w6 := Below.grown (by repeat (first | (with_reducible assumption) | exact Below.refl _ _ | (with_reducible refine Below.alloc ?_ (by first | omega | (simp <;> omega)) _) | (with_reducible refine Below.setCell ?_ (by first | omega | (simp <;> omega)) _) | (with_reducible refine Below.drew ?_))) hgr6 (by first | (simp; done) | (simp; omega)) (fun k e => by cases e; first | (simp; done) | (simp; omega))
        have hs6 := hT6.size
        refine hK.out _ _ (hAll.out _ hT6) (fun hS2 => ?_)
        clear hK K
        (try go_simp)
        refine wpAnyH_ready (rs := [5, 9]) (by kernel_rfl) (by simp) ?_
        refine (AllReadyH.cons rfl (fun K hK => ?_) (AllReadyH.cons rfl (fun K hK => ?_) AllReadyH.nil))
        · skip
          go_simp
          go_wp2_with (go_at_call 48; refine Calls.mono (hC _ _ _ (Lay.at_mono hat6 (Nat.zero_le _))) ?_; rintro e w9 ⟨rfl, hb9⟩)
          have hT9 : Below wB.heap.size wB w9 := Below.trans hT6 (hb9.mono (by have := hT6.size; first | omega | (simp; omega)))
          have hs9 := hT9.size
          refine hK.out _ _ (hAll.out _ hT9) (fun hS3 => ?_)
          clear hK K
          (try go_simp)
          (try go_simp)
          refine wpAnyH_take (i := 6) (v := ?_) rfl (by kernel_rfl) (by kernel_rfl) (by kernel_rfl) (fun _ _ _ h => h) (Or.inl ⟨by rfl, ?_⟩) hS3 ?_
          rotate_left
          · (intro W hSw; (try dsimp only at hSw); go_split_ands; go_simp; (try with_reducible rfl))
          (try go_simp)
          (try go_simp)
          refine wpAnyH_take (i := 7) (v := ?_) rfl (by kernel_rfl) (by kernel_rfl) (by kernel_rfl) (fun _ _ _ h => h) (Or.inl ⟨by rfl, ?_⟩) hS3 ?_
          rotate_left
          · (intro W hSw; (try dsimp only at hSw); go_split_ands; go_simp; (try with_reducible rfl))
          (try go_simp)
          (try go_simp)
          refine wpAnyH_take (i := 8) (v := ?_) rfl (by kernel_rfl) (by kernel_rfl) (by kernel_rfl) (fun _ _ _ h => h) (Or.inl ⟨by rfl, ?_⟩) hS3 ?_
          rotate_left
          · (intro W hSw; (try dsimp only at hSw); go_split_ands; go_simp; (try with_reducible rfl))
          (try go_simp)
          refine wpAnyH_ready (rs := [9]) (by kernel_rfl) (by simp) ?_
          refine (AllReadyH.cons rfl (fun K hK => ?_) AllReadyH.nil)
          go_simp
          refine hK.out _ _ (hAll.out _ (by repeat (first | (with_reducible assumption) | exact Below.refl _ _ | (with_reducible refine Below.alloc ?_ (by first | omega | (simp <;> omega)) _) | (with_reducible refine Below.setCell ?_ (by first | omega | (simp <;> omega)) _) | (with_reducible refine Below.drew ?_)))) (fun hS4 => ?_)
          clear hK K
          (try go_simp)
          refine wpAnyH_ready (rs := [10]) (by kernel_rfl) (by simp) ?_
          refine (AllReadyH.cons rfl (fun K hK => ?_) AllReadyH.nil)
          go_simp
          refine hK.out _ _ (hAll.out _ (by repeat (first | (with_reducible assumption) | exact Below.refl _ _ | (with_reducible refine Below.alloc ?_ (by first | omega | (simp <;> omega)) _) | (with_reducible refine Below.setCell ?_ (by first | omega | (simp <;> omega)) _) | (with_reducible refine Below.drew ?_)))) (fun hS5 => ?_)
          clear hK K
          (try go_simp)
          (try go_simp)
          refine wpAnyH_take (i := 11) (v := ?_) rfl (by kernel_rfl) (by kernel_rfl) (by kernel_rfl) (fun _ _ _ h => h) (Or.inl ⟨by rfl, ?_⟩) hS5 ?_
          rotate_left
          · (intro W hSw; (try dsimp only at hSw); go_split_ands; go_simp; (try with_reducible rfl))
          (try go_simp)
          refine wpAnyH_done (by kernel_rfl) ?_ _
          (try go_simp)
          go_wp2_with fail
          go_meet
          exact ⟨_, rfl, rfl, by have := hT9.size; omega, by first | (simp; done) | (simp; omega), by simp [go_sem], by simp [go_sem], (show Below _ _ _ from (by repeat (first | (with_reducible assumption) | exact Below.refl _ _ | (with_reducible refine Below.alloc ?_ (by first | omega | (simp <;> omega)) _) | (with_reducible refine Below.setCell ?_ (by first | omega | (simp <;> omega)) _) | (with_reducible refine Below.drew ?_))))⟩
        · skip
          go_simp
          refine hK.out _ _ (hAll.out _ (by repeat (first | (with_reducible assumption) | exact Below.refl _ _ | (with_reducible refine Below.alloc ?_ (by first | omega | (simp <;> omega)) _) | (with_reducible refine Below.setCell ?_ (by first | omega | (simp <;> omega)) _) | (with_reducible refine Below.drew ?_)))) (fun hS3 => ?_)
          clear hK K
          (try go_simp)
          refine wpAnyH_ready (rs := [5]) (by kernel_rfl) (by simp) ?_
          refine (AllReadyH.cons rfl (fun K hK => ?_) AllReadyH.nil)
          go_simp
          go_wp2_with (go_at_call 48; refine Calls.mono (hC _ _ _ (Lay.at_mono (Lay.at_below hat6 ((Below.refl _ _).alloc (Nat.le_refl _) _) (Nat.le_refl _)) (Nat.zero_le _))) ?_; rintro e w9 ⟨rfl, hb9⟩)
          have hT9 : Below wB.heap.size wB w9 := Below.trans (hT6.alloc hT6.size _) (hb9.mono (by have := hT6.size; first | omega | (simp; omega)))
          have hs9 := hT9.size
          have k0 : w9.cell? ⟨w6.heap.size, 0, none⟩ = some (.int .i64 0) := (hb9.cell (p := ⟨w6.heap.size, 0, none⟩) (by show w6.heap.size < _; first | omega | (simp; done) | (simp; omega))).trans (by simp [go_sem])
          have f0 : w9.frozen? ⟨w6.heap.size, 0, none⟩ = false := (hb9.frozen (p := ⟨w6.heap.size, 0, none⟩) (by show w6.heap.size < _; first | omega | (simp; done) | (simp; omega))).trans (by simp [go_sem])
          have k1 : w9.cell? ⟨w6.heap.size, 1, none⟩ = some (.int .i64 0) := (hb9.cell (p := ⟨w6.heap.size, 1, none⟩) (by show w6.heap.size < _; first | omega | (simp; done) | (simp; omega))).trans (by simp [go_sem])
          have f1 : w9.frozen? ⟨w6.heap.size, 1, none⟩ = false := (hb9.frozen (p := ⟨w6.heap.size, 1, none⟩) (by show w6.heap.size < _; first | omega | (simp; done) | (simp; omega))).trans (by simp [go_sem])
          have lk : w6.heap.size < w9.heap.size := by have := hb9.size; simp at this; omega
          refine hK.out _ _ (hAll.out _ hT9) (fun hS4 => ?_)
          clear hK K
          (try go_simp)
          (try go_simp)
          refine wpAnyH_take (i := 6) (v := ?_) rfl (by kernel_rfl) (by kernel_rfl) (by kernel_rfl) (fun _ _ _ h => h) (Or.inl ⟨by rfl, ?_⟩) hS4 ?_
          rotate_left
          · (intro W hSw; (try dsimp only at hSw); go_split_ands; go_simp; (try with_reducible rfl))
          (try go_simp)
          (try go_simp)
          refine wpAnyH_take (i := 7) (v := ?_) rfl (by kernel_rfl) (by kernel_rfl) (by kernel_rfl) (fun _ _ _ h => h) (Or.inl ⟨by rfl, ?_⟩) hS4 ?_
          rotate_left
          · (intro W hSw; (try dsimp only at hSw); go_split_ands; go_simp; (try with_reducible rfl))
          (try go_simp)
          (try go_simp)
          refine wpAnyH_take (i := 8) (v := ?_) rfl (by kernel_rfl) (by kernel_rfl) (by kernel_rfl) (fun _ _ _ h => h) (Or.inl ⟨by rfl, ?_⟩) hS4 ?_
          rotate_left
          · (intro W hSw; (try dsimp only at hSw); go_split_ands; go_simp; (try with_reducible rfl))
          (try go_simp)
          refine wpAnyH_ready (rs := [10]) (by kernel_rfl) (by simp) ?_
          refine (AllReadyH.cons rfl (fun K hK => ?_) AllReadyH.nil)
          go_simp
          refine hK.out _ _ (hAll.out _ (by repeat (first | (with_reducible assumption) | exact Below.refl _ _ | (with_reducible refine Below.alloc ?_ (by first | omega | (simp <;> omega)) _) | (with_reducible refine Below.setCell ?_ (by first | omega | (simp <;> omega)) _) | (with_reducible refine Below.drew ?_)))) (fun hS5 => ?_)
          clear hK K
          (try go_simp)
          (try go_simp)
          refine wpAnyH_take (i := 11) (v := ?_) rfl (by kernel_rfl) (by kernel_rfl) (by kernel_rfl) (fun _ _ _ h => h) (Or.inl ⟨by rfl, ?_⟩) hS5 ?_
          rotate_left
          · (intro W hSw; (try dsimp only at hSw); go_split_ands; go_simp; (try with_reducible rfl))
          (try go_simp)
          refine wpAnyH_done (by kernel_rfl) ?_ _
          (try go_simp)
          go_wp2_with fail
          go_meet
          exact ⟨_, rfl, rfl, by first | omega | (simp; done) | (simp; omega), by first | omega | (simp; done) | (simp; omega), by simp [go_sem, k0, k1, lk], by simp [go_sem, k0, k1, lk], (show Below _ _ _ from (by repeat (first | (with_reducible assumption) | exact Below.refl _ _ | (with_reducible refine Below.alloc ?_ (by first | omega | (simp <;> omega)) _) | (with_reducible refine Below.setCell ?_ (by first | omega | (simp <;> omega)) _) | (with_reducible refine Below.drew ?_))))⟩
      · go_simp
        refine hK.out _ _ (hAll.out _ (by repeat (first | (with_reducible assumption) | exact Below.refl _ _ | (with_reducible refine Below.alloc ?_ (by first | omega | (simp <;> omega)) _) | (with_reducible refine Below.setCell ?_ (by first | omega | (simp <;> omega)) _) | (with_reducible refine Below.drew ?_)))) (fun hS2 => ?_)
        clear hK K
        (try go_simp)
        refine wpAnyH_ready (rs := [3]) (by kernel_rfl) (by simp) ?_
        refine (AllReadyH.cons rfl (fun K hK => ?_) AllReadyH.nil)
        refine step_append_copy gpL rfl _ _ _ (by rfl) 102 i5 _ 24 Try.underlying93 hi5 hz5 hs5 hb5 rfl _ (by rfl) (by exact ((ownsRow_emptyK wB _ 3).alloc _).drew) A n cc lo gs (by rfl) (Lay.at_below HX.out (hBA.trans (Below.mono (show Below wB.heap.size wB _ from (by repeat (first | (with_reducible assumption) | exact Below.refl _ _ | (with_reducible refine Below.alloc ?_ (by first | omega | (simp <;> omega)) _) | (with_reducible refine Below.setCell ?_ (by first | omega | (simp <;> omega)) _) | (with_reducible refine Below.drew ?_)))) (by omega))) (Nat.le_refl _)) hn.out h0 hl (by omega) (by first | (simp; done) | (simp; omega)) ?_
        intro A6 c6 w6 hat6 hgr6 hn6 hm6
        have hT6 : Below wB.heap.size wB w6 := Below.grown (by repeat (first | (with_reducible assumption) | exact Below.refl _ _ | (with_reducible refine Below.alloc ?_ (by first | omega | (simp <;> omega)) _) | (with_reducible refine Below.setCell ?_ (by first | omega | (simp <;> omega)) _) | (with_reducible refine Below.drew ?_))) hgr6 (by first | (simp; done) | (simp; omega)) (fun k e => by cases e; first | (simp; done) | (simp; omega))
        have hs6 := hT6.size
        have m0 : w6.cell? ⟨wB.heap.size + 1, 0, none⟩ = some (.int .i64 0) := (hgr6.cell_far ⟨wB.heap.size + 1, 0, none⟩ (by first | (simp; done) | (simp; omega)) (by simp)).trans (by simp [go_sem])
        have p0 : w6.frozen? ⟨wB.heap.size + 1, 0, none⟩ = false := (hgr6.frozen_far ⟨wB.heap.size + 1, 0, none⟩ (by first | (simp; done) | (simp; omega)) (by simp)).trans (by simp [go_sem])
        have m1 : w6.cell? ⟨wB.heap.size + 1, 1, none⟩ = some (.int .i64 0) := (hgr6.cell_far ⟨wB.heap.size + 1, 1, none⟩ (by first | (simp; done) | (simp; omega)) (by simp)).trans (by simp [go_sem])
        have p1 : w6.frozen? ⟨wB.heap.size + 1, 1, none⟩ = false := (hgr6.frozen_far ⟨wB.heap.size + 1, 1, none⟩ (by first | (simp; done) | (simp; omega)) (by simp)).trans (by simp [go_sem])
        have hgz := hgr6.size
        simp only [World.size_alloc, World.size_drew] at hgz
        have lm : wB.heap.size + 1 < w6.heap.size := by omega
        refine hK.out _ _ (hAll.out _ hT6) (fun hS3 => ?_)
        clear hK K
        (try go_simp)
        refine wpAnyH_ready (rs := [5]) (by kernel_rfl) (by simp) ?_
        refine (AllReadyH.cons rfl (fun K hK => ?_) AllReadyH.nil)
        go_simp
        go_wp2_with (go_at_call 48; refine Calls.mono (hC _ _ _ (Lay.at_mono hat6 (Nat.zero_le _))) ?_; rintro e w9 ⟨rfl, hb9⟩)
        have hT9 : Below wB.heap.size wB w9 := Below.trans hT6 (hb9.mono (by have := hT6.size; first | omega | (simp; omega)))
        have hs9 := hT9.size
        have k0 : w9.cell? ⟨wB.heap.size + 1, 0, none⟩ = some (.int .i64 0) := (hb9.cell (p := ⟨wB.heap.size + 1, 0, none⟩) (by show wB.heap.size + 1 < _; first | omega | (simp; done) | (simp; omega))).trans m0
        have f0 : w9.frozen? ⟨wB.heap.size + 1, 0, none⟩ = false := (hb9.frozen (p := ⟨wB.heap.size + 1, 0, none⟩) (by show wB.heap.size + 1 < _; first | omega | (simp; done) | (simp; omega))).trans p0
        have k1 : w9.cell? ⟨wB.heap.size + 1, 1, none⟩ = some (.int .i64 0) := (hb9.cell (p := ⟨wB.heap.size + 1, 1, none⟩) (by show wB.heap.size + 1 < _; first | omega | (simp; done) | (simp; omega))).trans m1
        have f1 : w9.frozen? ⟨wB.heap.size + 1, 1, none⟩ = false := (hb9.frozen (p := ⟨wB.heap.size + 1, 1, none⟩) (by show wB.heap.size + 1 < _; first | omega | (simp; done) | (simp; omega))).trans p1
        have lk : wB.heap.size + 1 < w9.heap.size := by have := hb9.size; omega
        refine hK.out _ _ (hAll.out _ hT9) (fun hS4 => ?_)
        clear hK K
        (try go_simp)
        (try go_simp)
        refine wpAnyH_take (i := 6) (v := ?_) rfl (by kernel_rfl) (by kernel_rfl) (by kernel_rfl) (fun _ _ _ h => h) (Or.inl ⟨by rfl, ?_⟩) hS4 ?_
        rotate_left
        · (intro W hSw; (try dsimp only at hSw); go_split_ands; go_simp; (try with_reducible rfl))
        (try go_simp)
        (try go_simp)
        refine wpAnyH_take (i := 7) (v := ?_) rfl (by kernel_rfl) (by kernel_rfl) (by kernel_rfl) (fun _ _ _ h => h) (Or.inl ⟨by rfl, ?_⟩) hS4 ?_
        rotate_left
        · (intro W hSw; (try dsimp only at hSw); go_split_ands; go_simp; (try with_reducible rfl))
        (try go_simp)
        (try go_simp)
        refine wpAnyH_take (i := 8) (v := ?_) rfl (by kernel_rfl) (by kernel_rfl) (by kernel_rfl) (fun _ _ _ h => h) (Or.inl ⟨by rfl, ?_⟩) hS4 ?_
        rotate_left
        · (intro W hSw; (try dsimp only at hSw); go_split_ands; go_simp; (try with_reducible rfl))
        (try go_simp)
        refine wpAnyH_ready (rs := [10]) (by kernel_rfl) (by simp) ?_
        refine (AllReadyH.cons rfl (fun K hK => ?_) AllReadyH.nil)
        go_simp
        refine hK.out _ _ (hAll.out _ (by repeat (first | (with_reducible assumption) | exact Below.refl _ _ | (with_reducible refine Below.alloc ?_ (by first | omega | (simp <;> omega)) _) | (with_reducible refine Below.setCell ?_ (by first | omega | (simp <;> omega)) _) | (with_reducible refine Below.drew ?_)))) (fun hS5 => ?_)
        clear hK K
        (try go_simp)
        (try go_simp)
        refine wpAnyH_take (i := 11) (v := ?_) rfl (by kernel_rfl) (by kernel_rfl) (by kernel_rfl) (fun _ _ _ h => h) (Or.inl ⟨by rfl, ?_⟩) hS5 ?_
        rotate_left
        · (intro W hSw; (try dsimp only at hSw); go_split_ands; go_simp; (try with_reducible rfl))
        (try go_simp)
        refine wpAnyH_done (by kernel_rfl) ?_ _
        (try go_simp)
        go_wp2_with fail
        go_meet
        exact ⟨_, rfl, rfl, by first | omega | (simp; done) | (simp; omega), by first | omega | (simp; done) | (simp; omega), by simp [go_sem, k0, k1, lk], by simp [go_sem, k0, k1, lk], (show Below _ _ _ from (by repeat (first | (with_reducible assumption) | exact Below.refl _ _ | (with_reducible refine Below.alloc ?_ (by first | omega | (simp <;> omega)) _) | (with_reducible refine Below.setCell ?_ (by first | omega | (simp <;> omega)) _) | (with_reducible refine Below.drew ?_))))⟩
    · go_simp
      refine hK.out _ _ (hAll.out _ (by repeat (first | (with_reducible assumption) | exact Below.refl _ _ | (with_reducible refine Below.alloc ?_ (by first | omega | (simp <;> omega)) _) | (with_reducible refine Below.setCell ?_ (by first | omega | (simp <;> omega)) _) | (with_reducible refine Below.drew ?_)))) (fun hS1 => ?_)
      clear hK K
      (try go_simp)
      refine wpAnyH_ready (rs := [1]) (by kernel_rfl) (by simp) ?_
      refine (AllReadyH.cons rfl (fun K hK => ?_) AllReadyH.nil)
      go_simp
      refine hK.out _ _ (hAll.out _ (by repeat (first | (with_reducible assumption) | exact Below.refl _ _ | (with_reducible refine Below.alloc ?_ (by first | omega | (simp <;> omega)) _) | (with_reducible refine Below.setCell ?_ (by first | omega | (simp <;> omega)) _) | (with_reducible refine Below.drew ?_)))) (fun hS2 => ?_)
      clear hK K
      (try go_simp)
      refine wpAnyH_ready (rs := [3]) (by kernel_rfl) (by simp) ?_
      refine (AllReadyH.cons rfl (fun K hK => ?_) AllReadyH.nil)
      refine step_append_copy gpL rfl _ _ _ (by rfl) 102 i5 _ 24 Try.underlying93 hi5 hz5 hs5 hb5 rfl _ (by rfl) (by have hq := (ownsRow_emptyK (wB.alloc (.cells #[.int .i64 0, .int .i64 0] 23)) 102 3).drew; simp at hq; exact hq) A n cc lo gs (by rfl) (Lay.at_below HX.out (hBA.trans (Below.mono (show Below wB.heap.size wB _ from (by repeat (first | (with_reducible assumption) | exact Below.refl _ _ | (with_reducible refine Below.alloc ?_ (by first | omega | (simp <;> omega)) _) | (with_reducible refine Below.setCell ?_ (by first | omega | (simp <;> omega)) _) | (with_reducible refine Below.drew ?_)))) (by omega))) (Nat.le_refl _)) hn.out h0 hl (by omega) (by first | (simp; done) | (simp; omega)) ?_
      intro A6 c6 w6 hat6 hgr6 hn6 hm6
      have hT6 : Below wB.heap.size wB w6 := Below.grown (by repeat (first | (with_reducible assumption) | exact Below.refl _ _ | (with_reducible refine Below.alloc ?_ (by first | omega | (simp <;> omega)) _) | (with_reducible refine Below.setCell ?_ (by first | omega | (simp <;> omega)) _) | (with_reducible refine Below.drew ?_))) hgr6 (by first | (simp; done) | (simp; omega)) (fun k e => by cases e; first | (simp; done) | (simp; omega))
      have hs6 := hT6.size
      have m0 : w6.cell? ⟨wB.heap.size, 0, none⟩ = some (.int .i64 0) := (hgr6.cell_far ⟨wB.heap.size, 0, none⟩ (by first | (simp; done) | (simp; omega)) (by simp)).trans (by simp [go_sem])
      have p0 : w6.frozen? ⟨wB.heap.size, 0, none⟩ = false := (hgr6.frozen_far ⟨wB.heap.size, 0, none⟩ (by first | (simp; done) | (simp; omega)) (by simp)).trans (by simp [go_sem])
      have m1 : w6.cell? ⟨wB.heap.size, 1, none⟩ = some (.int .i64 0) := (hgr6.cell_far ⟨wB.heap.size, 1, none⟩ (by first | (simp; done) | (simp; omega)) (by simp)).trans (by simp [go_sem])
      have p1 : w6.frozen? ⟨wB.heap.size, 1, none⟩ = false := (hgr6.frozen_far ⟨wB.heap.size, 1, none⟩ (by first | (simp; done) | (simp; omega)) (by simp)).trans (by simp [go_sem])
      have hgz := hgr6.size
      simp only [World.size_alloc, World.size_drew] at hgz
      have lm : wB.heap.size < w6.heap.size := by omega
      refine hK.out _ _ (hAll.out _ hT6) (fun hS3 => ?_)
      clear hK K
      (try go_simp)
      refine wpAnyH_ready (rs := [5]) (by kernel_rfl) (by simp) ?_
      refine (AllReadyH.cons rfl (fun K hK => ?_) AllReadyH.nil)
      go_simp
      go_wp2_with (go_at_call 48; refine Calls.mono (hC _ _ _ (Lay.at_mono hat6 (Nat.zero_le _))) ?_; rintro e w9 ⟨rfl, hb9⟩)
      have hT9 : Below wB.heap.size wB w9 := Below.trans hT6 (hb9.mono (by have := hT6.size; first | omega | (simp; omega)))
      have hs9 := hT9.size
      have k0 : w9.cell? ⟨wB.heap.size, 0, none⟩ = some (.int .i64 0) := (hb9.cell (p := ⟨wB.heap.size, 0, none⟩) (by show wB.heap.size < _; first | omega | (simp; done) | (simp; omega))).trans m0
      have f0 : w9.frozen? ⟨wB.heap.size, 0, none⟩ = false := (hb9.frozen (p := ⟨wB.heap.size, 0, none⟩) (by show wB.heap.size < _; first | omega | (simp; done) | (simp; omega))).trans p0
      have k1 : w9.cell? ⟨wB.heap.size, 1, none⟩ = some (.int .i64 0) := (hb9.cell (p := ⟨wB.heap.size, 1, none⟩) (by show wB.heap.size < _; first | omega | (simp; done) | (simp; omega))).trans m1
      have f1 : w9.frozen? ⟨wB.heap.size, 1, none⟩ = false := (hb9.frozen (p := ⟨wB.heap.size, 1, none⟩) (by show wB.heap.size < _; first | omega | (simp; done) | (simp; omega))).trans p1
      have lk : wB.heap.size < w9.heap.size := by have := hb9.size; omega
      refine hK.out _ _ (hAll.out _ hT9) (fun hS4 => ?_)
      clear hK K
      (try go_simp)
      (try go_simp)
      refine wpAnyH_take (i := 6) (v := ?_) rfl (by kernel_rfl) (by kernel_rfl) (by kernel_rfl) (fun _ _ _ h => h) (Or.inl ⟨by rfl, ?_⟩) hS4 ?_
      rotate_left
      · (intro W hSw; (try dsimp only at hSw); go_split_ands; go_simp; (try with_reducible rfl))
      (try go_simp)
      (try go_simp)
      refine wpAnyH_take (i := 7) (v := ?_) rfl (by kernel_rfl) (by kernel_rfl) (by kernel_rfl) (fun _ _ _ h => h) (Or.inl ⟨by rfl, ?_⟩) hS4 ?_
      rotate_left
      · (intro W hSw; (try dsimp only at hSw); go_split_ands; go_simp; (try with_reducible rfl))
      (try go_simp)
      (try go_simp)
      refine wpAnyH_take (i := 8) (v := ?_) rfl (by kernel_rfl) (by kernel_rfl) (by kernel_rfl) (fun _ _ _ h => h) (Or.inl ⟨by rfl, ?_⟩) hS4 ?_
      rotate_left
      · (intro W hSw; (try dsimp only at hSw); go_split_ands; go_simp; (try with_reducible rfl))
      (try go_simp)
      refine wpAnyH_ready (rs := [10]) (by kernel_rfl) (by simp) ?_
      refine (AllReadyH.cons rfl (fun K hK => ?_) AllReadyH.nil)
      go_simp
      refine hK.out _ _ (hAll.out _ (by repeat (first | (with_reducible assumption) | exact Below.refl _ _ | (with_reducible refine Below.alloc ?_ (by first | omega | (simp <;> omega)) _) | (with_reducible refine Below.setCell ?_ (by first | omega | (simp <;> omega)) _) | (with_reducible refine Below.drew ?_)))) (fun hS5 => ?_)
      clear hK K
      (try go_simp)
      (try go_simp)
      refine wpAnyH_take (i := 11) (v := ?_) rfl (by kernel_rfl) (by kernel_rfl) (by kernel_rfl) (fun _ _ _ h => h) (Or.inl ⟨by rfl, ?_⟩) hS5 ?_
      rotate_left
      · (intro W hSw; (try dsimp only at hSw); go_split_ands; go_simp; (try with_reducible rfl))
      (try go_simp)
      refine wpAnyH_done (by kernel_rfl) ?_ _
      (try go_simp)
      go_wp2_with fail
      go_meet
      exact ⟨_, rfl, rfl, by first | omega | (simp; done) | (simp; omega), by first | omega | (simp; done) | (simp; omega), by simp [go_sem, k0, k1, lk], by simp [go_sem, k0, k1, lk], (show Below _ _ _ from (by repeat (first | (with_reducible assumption) | exact Below.refl _ _ | (with_reducible refine Below.alloc ?_ (by first | omega | (simp <;> omega)) _) | (with_reducible refine Below.setCell ?_ (by first | omega | (simp <;> omega)) _) | (with_reducible refine Below.drew ?_))))⟩
  case rest =>
    obtain ⟨b11, rfl, rfl, g11, l11, d0, d1, hT5⟩ := hcut
    obtain ⟨wC, hWX⟩ : ∃ wX, wX = wc := ⟨_, rfl⟩
    subst hWX
    have hCs := hT5.out.size
    replace hBA : Below w.heap.size w wC := hBA.trans (hT5.out.mono (by omega))
    replace q0 := (hT5.out.cell hA0).trans q0
    replace q1 := (hT5.out.cell hA0).trans q1
    replace q2 := (hT5.out.cell hA0).trans q2
    replace q3 := (hT5.out.cell hA0).trans q3
    replace q4 := (hT5.out.cell hA0).trans q4
    replace q5 := (hT5.out.cell hA0).trans q5
    replace q6 := (hT5.out.cell hA0).trans q6
    replace q7 := (hT5.out.cell hA0).trans q7
    replace q8 := (hT5.out.cell hA0).trans q8
    replace q9 := (hT5.out.cell hA0).trans q9
    replace s0 := (hT5.out.cell hA1).trans s0
    replace s1 := (hT5.out.cell hA1).trans s1
    replace s2 := (hT5.out.cell hA1).trans s2
    replace s3 := (hT5.out.cell hA1).trans s3
    replace c70 := (hT5.out.cell l7).trans c70
    replace c71 := (hT5.out.cell l7).trans c71
    replace c80 := (hT5.out.cell l8).trans c80
    replace c81 := (hT5.out.cell l8).trans c81
    replace c90 := (hT5.out.cell l9).trans c90
    replace c91 := (hT5.out.cell l9).trans c91
    replace hA0 : w.heap.size < wC.heap.size := by omega
    replace hA1 : w.heap.size + 1 < wC.heap.size := by omega
    replace l7 : b7 < wC.heap.size := by omega
    replace l8 : b8 < wC.heap.size := by omega
    replace l9 : b9 < wC.heap.size := by omega
    go_wp2_with fail
    exact gives_t5 r x0 x1 x2 x3 lo A n cc gs w HX h0 hn hl (by omega) x y er ec Her Hxx Hyy wC hA0 hA1 hBA q0 q1 q2 q3 q4 q5 q6 q7 q8 q9 s0 s1 s2 s3 b7 b8 l7 l8 c70 c71 c80 c81 b9 l9 c90 c91 b11 l11 d0 d1

noncomputable def tail3 : Code := dropC 3 (bodyC Try.f12)
set_option maxRecDepth 100000 in
set_option maxHeartbeats 4000000 in
theorem gives_t3 {z0 z2 z4 z6 z9 z10 z11 z12 z13 z14 z15 z16 z17 z18 z19 z20 z21 z22 z23 z24 z25 z26 z27 z28 z29 z30 z31 z32 z33 z34 z35 z36 z37 z38 z39 z40 z41 z42 z43 z44 z45 z46 z47 z48 z49 z50 z51 z52 z53 z54 z55 z56 z57 z58 z59 z60 z61 z62 z63 z64 z65 z66 z67 z68 z69 z70 z71 z72 z73 z74 z75 z76 z77 z78 z79 z80 z81 z82 z83 z84 z85 z86 z87 z88 z89 z90 z91 z92 z93 z94 z95 z96 z97 z98 z99 z100 z101 z102 z103 z104 z105 z106 z107 z108 z109 z110 z111 z112 z113 z114 z115 z116 z117 z118 z119 z120 z121 z122 z123 z124 z125 z126 z127 z128 z129 z130 z131 z132 z133 z134 z135 z136 z137 z138 z139 z140 z141 z142 z143 z144 z145 z146 z147 z148 z149 z150 z151 z152 z153 z154 z155 z156 z157 z158 z159 z160 z161 z162 z163 z164 z165 z166 z167 z168 z169 z170 z171 z172 z173 z174 z175 z176 z177 z178 z179 z180 z181 z182 z183 z184 z185 z186 z187 z188 z189 z190 z191 z192 z193 z194 z195 z196 z197 : Value} (r : TR) (x0 x1 x2 x3 : Int) (lo : Nat) (A : Option Addr) (n cc : Nat) (gs : List Gp) (w : World) (HX : Aside (gpL.at w lo A gs)) (h0 : A = none → n = 0 ∧ cc = 0) (hn : Aside (gs.length = n)) (hl : n ≤ maxLen) (hz70 : ¬ (70 : Int) < (n : Int)) (x y : R) (er ec : Int) (Her : Aside (errG r gs = er)) (Hxx : Aside ((if er = 0 then sumR (gs.map (giveR r)) else R.d) = x)) (Hyy : Aside (cropS er (sumR (gs.map (giveR r))) x0 x1 = (y, ec))) (wA : World) (hA0 : w.heap.size < wA.heap.size) (hA1 : w.heap.size + 1 < wA.heap.size) (hBA : Below w.heap.size w wA) (q0 : wA.cell? ⟨w.heap.size, 0, none⟩ = some (.int .i64 r.frost)) (q1 : wA.cell? ⟨w.heap.size, 1, none⟩ = some (.int .i64 r.thaw)) (q2 : wA.cell? ⟨w.heap.size, 2, none⟩ = some (.int .i64 r.gain)) (q3 : wA.cell? ⟨w.heap.size, 3, none⟩ = some (.int .i64 r.full)) (q4 : wA.cell? ⟨w.heap.size, 4, none⟩ = some (.int .i64 r.ice)) (q5 : wA.cell? ⟨w.heap.size, 5, none⟩ = some (.int .i64 r.most)) (q6 : wA.cell? ⟨w.heap.size, 6, none⟩ = some (.int .i64 r.melt)) (q7 : wA.cell? ⟨w.heap.size, 7, none⟩ = some (.int .i64 r.rlow)) (q8 : wA.cell? ⟨w.heap.size, 8, none⟩ = some (.int .i64 r.rhigh)) (q9 : wA.cell? ⟨w.heap.size, 9, none⟩ = some (.int .i64 r.pull)) (s0 : wA.cell? ⟨w.heap.size + 1, 0, none⟩ = some (.int .i64 x0)) (s1 : wA.cell? ⟨w.heap.size + 1, 1, none⟩ = some (.int .i64 x1)) (s2 : wA.cell? ⟨w.heap.size + 1, 2, none⟩ = some (.int .i64 x2)) (s3 : wA.cell? ⟨w.heap.size + 1, 3, none⟩ = some (.int .i64 x3)) (b7 b8 : Nat) (l7 : b7 < wA.heap.size) (l8 : b8 < wA.heap.size) (c70 : wA.cell? ⟨b7, 0, none⟩ = some (.int .i64 x0)) (c71 : wA.cell? ⟨b7, 1, none⟩ = some (.int .i64 x1)) (c80 : wA.cell? ⟨b8, 0, none⟩ = some (.int .i64 x2)) (c81 : wA.cell? ⟨b8, 1, none⟩ = some (.int .i64 x3)) :
    Code.wp Try.prog tail3 (bodyPost Try.prog Try.f12 fun e w' => e = .returned (.bool true) ∧ Below w.heap.size w w') ⟨List.toArray (z0 :: .slice A n cc :: z2 :: .pointer (some ⟨w.heap.size, 0, none⟩) :: z4 :: .pointer (some ⟨w.heap.size + 1, 0, none⟩) :: z6 :: .pointer (some ⟨b7, 0, none⟩) :: .pointer (some ⟨b8, 0, none⟩) :: z9 :: z10 :: z11 :: z12 :: z13 :: z14 :: z15 :: z16 :: z17 :: z18 :: z19 :: z20 :: z21 :: z22 :: z23 :: z24 :: z25 :: z26 :: z27 :: z28 :: z29 :: z30 :: z31 :: z32 :: z33 :: z34 :: z35 :: z36 :: z37 :: z38 :: z39 :: z40 :: z41 :: z42 :: z43 :: z44 :: z45 :: z46 :: z47 :: z48 :: z49 :: z50 :: z51 :: z52 :: z53 :: z54 :: z55 :: z56 :: z57 :: z58 :: z59 :: z60 :: z61 :: z62 :: z63 :: z64 :: z65 :: z66 :: z67 :: z68 :: z69 :: z70 :: z71 :: z72 :: z73 :: z74 :: z75 :: z76 :: z77 :: z78 :: z79 :: z80 :: z81 :: z82 :: z83 :: z84 :: z85 :: z86 :: z87 :: z88 :: z89 :: z90 :: z91 :: z92 :: z93 :: z94 :: z95 :: z96 :: z97 :: z98 :: z99 :: z100 :: z101 :: z102 :: z103 :: z104 :: z105 :: z106 :: z107 :: z108 :: z109 :: z110 :: z111 :: z112 :: z113 :: z114 :: z115 :: z116 :: z117 :: z118 :: z119 :: z120 :: z121 :: z122 :: z123 :: z124 :: z125 :: z126 :: z127 :: z128 :: z129 :: z130 :: z131 :: z132 :: z133 :: z134 :: z135 :: z136 :: z137 :: z138 :: z139 :: z140 :: z141 :: z142 :: z143 :: z144 :: z145 :: z146 :: z147 :: z148 :: z149 :: z150 :: z151 :: z152 :: z153 :: z154 :: z155 :: z156 :: z157 :: z158 :: z159 :: z160 :: z161 :: z162 :: z163 :: z164 :: z165 :: z166 :: z167 :: z168 :: z169 :: z170 :: z171 :: z172 :: z173 :: z174 :: z175 :: z176 :: z177 :: z178 :: z179 :: z180 :: z181 :: z182 :: z183 :: z184 :: z185 :: z186 :: z187 :: z188 :: z189 :: z190 :: z191 :: z192 :: z193 :: z194 :: z195 :: z196 :: z197 :: []), []⟩ wA := by
  have hkn := fun (W : World) => known_any W
  obtain ⟨i5, hi5, hz5, hs5, hb5⟩ := info_parts (show (Try.prog.info? 102).map (fun i => (i.zero, i.size, i.bytes)) = some (some (.agg #[.int .i64 0, .int .i64 0, .int .i64 0]), 3, 24) by kernel_rfl)
  have hR : tail4 = dropC 1 tail3 := (dropC_add 1 3 _).symm
  refine wp_tail 1 hR ?_
  conv => arg 2; simp only [tail3, bodyC, Try.f12, Option.getD_some, dropC, mkC]
  have hG := fun A' c' (W : World) (h : gpL.at W 0 A' gs) => gives_any r 0 A' n c' gs W h hn hl
  rw [Her.out, show rV r = .agg #[.int .i64 r.frost, .int .i64 r.thaw, .int .i64 r.gain, .int .i64 r.full, .int .i64 r.ice, .int .i64 r.most, .int .i64 r.melt, .int .i64 r.rlow, .int .i64 r.rhigh, .int .i64 r.pull] from rfl] at hG
  rw [Hxx.out] at hG
  unfold GivesPost at hG
  go_upto_region 4 with (fail)
  go_cut [9, 10] (fun v9 v10 wx => ∃ b9 : Nat, v9 = .pointer (some ⟨b9, 0, none⟩) ∧ v10 = .int .i64 er ∧ wA.heap.size ≤ b9 ∧ b9 < wx.heap.size ∧ wx.cell? ⟨b9, 0, none⟩ = some (.int .i64 x.lo) ∧ wx.cell? ⟨b9, 1, none⟩ = some (.int .i64 x.hi) ∧ Aside (Below wA.heap.size wA wx))
  case first =>
    have hAll : Aside (∀ W, Below wA.heap.size wA W → (Below wA.heap.size wA W
      ∧ W.cell? ⟨w.heap.size, 0, none⟩ = some (.int .i64 r.frost)
      ∧ W.cell? ⟨w.heap.size, 1, none⟩ = some (.int .i64 r.thaw)
      ∧ W.cell? ⟨w.heap.size, 2, none⟩ = some (.int .i64 r.gain)
      ∧ W.cell? ⟨w.heap.size, 3, none⟩ = some (.int .i64 r.full)
      ∧ W.cell? ⟨w.heap.size, 4, none⟩ = some (.int .i64 r.ice)
      ∧ W.cell? ⟨w.heap.size, 5, none⟩ = some (.int .i64 r.most)
      ∧ W.cell? ⟨w.heap.size, 6, none⟩ = some (.int .i64 r.melt)
      ∧ W.cell? ⟨w.heap.size, 7, none⟩ = some (.int .i64 r.rlow)
      ∧ W.cell? ⟨w.heap.size, 8, none⟩ = some (.int .i64 r.rhigh)
      ∧ W.cell? ⟨w.heap.size, 9, none⟩ = some (.int .i64 r.pull)

    )) := fun W h => ⟨h
      , (h.cell (p := ⟨w.heap.size, 0, none⟩) hA0).trans q0
      , (h.cell (p := ⟨w.heap.size, 1, none⟩) hA0).trans q1
      , (h.cell (p := ⟨w.heap.size, 2, none⟩) hA0).trans q2
      , (h.cell (p := ⟨w.heap.size, 3, none⟩) hA0).trans q3
      , (h.cell (p := ⟨w.heap.size, 4, none⟩) hA0).trans q4
      , (h.cell (p := ⟨w.heap.size, 5, none⟩) hA0).trans q5
      , (h.cell (p := ⟨w.heap.size, 6, none⟩) hA0).trans q6
      , (h.cell (p := ⟨w.heap.size, 7, none⟩) hA0).trans q7
      , (h.cell (p := ⟨w.heap.size, 8, none⟩) hA0).trans q8
      , (h.cell (p := ⟨w.heap.size, 9, none⟩) hA0).trans q9

    ⟩
    refine wp_region_held_drew (S := fun W => Below wA.heap.size wA W
      ∧ W.cell? ⟨w.heap.size, 0, none⟩ = some (.int .i64 r.frost)
      ∧ W.cell? ⟨w.heap.size, 1, none⟩ = some (.int .i64 r.thaw)
      ∧ W.cell? ⟨w.heap.size, 2, none⟩ = some (.int .i64 r.gain)
      ∧ W.cell? ⟨w.heap.size, 3, none⟩ = some (.int .i64 r.full)
      ∧ W.cell? ⟨w.heap.size, 4, none⟩ = some (.int .i64 r.ice)
      ∧ W.cell? ⟨w.heap.size, 5, none⟩ = some (.int .i64 r.most)
      ∧ W.cell? ⟨w.heap.size, 6, none⟩ = some (.int .i64 r.melt)
      ∧ W.cell? ⟨w.heap.size, 7, none⟩ = some (.int .i64 r.rlow)
      ∧ W.cell? ⟨w.heap.size, 8, none⟩ = some (.int .i64 r.rhigh)
      ∧ W.cell? ⟨w.heap.size, 9, none⟩ = some (.int .i64 r.pull)

    ) (by kernel_rfl) (hAll.out _ ((Below.refl _ _).drew)) (fun hS0 => ?_)
    (try go_simp)
    refine wpAnyH_take (i := 0) (v := ?_) rfl (by kernel_rfl) (by kernel_rfl) (by kernel_rfl) (fun _ _ _ h => h) (Or.inl ⟨by rfl, ?_⟩) hS0 ?_
    rotate_left
    · (intro W hSw; (try dsimp only at hSw); go_split_ands; go_simp; (try with_reducible rfl))
    (try go_simp)
    (try go_simp)
    refine wpAnyH_take (i := 2) (v := ?_) rfl (by kernel_rfl) (by kernel_rfl) (by kernel_rfl) (fun _ _ _ h => h) (Or.inl ⟨by rfl, ?_⟩) hS0 ?_
    rotate_left
    · (intro W hSw; (try dsimp only at hSw); go_split_ands; go_simp; (try with_reducible rfl))
    (try go_simp)
    refine wpAnyH_ready (rs := [1, 8]) (by kernel_rfl) (by simp) ?_
    refine (AllReadyH.cons rfl (fun K hK => ?_) (AllReadyH.cons rfl (fun K hK => ?_) AllReadyH.nil))
    · go_simp
      refine hK.out _ _ (hAll.out _ (by repeat (first | (with_reducible assumption) | exact Below.refl _ _ | (with_reducible refine Below.alloc ?_ (by first | omega | (simp <;> omega)) _) | (with_reducible refine Below.setCell ?_ (by first | omega | (simp <;> omega)) _) | (with_reducible refine Below.drew ?_)))) (fun hS1 => ?_)
      clear hK K
      (try go_simp)
      refine wpAnyH_ready (rs := [3, 8]) (by kernel_rfl) (by simp) ?_
      refine (AllReadyH.cons rfl (fun K hK => ?_) (AllReadyH.cons rfl (fun K hK => ?_) AllReadyH.nil))
      · skip
        refine step_append_copy gpL rfl _ _ _ (by rfl) 102 i5 _ 24 Try.underlying93 hi5 hz5 hs5 hb5 rfl _ (by rfl) (by first | exact (ownsRow_emptyK wA _ 3).drew | exact ownsRow_emptyK wA _ 3) A n cc lo gs (by rfl) (Lay.at_below HX.out (hBA.trans (Below.mono (show Below wA.heap.size wA _ from (by repeat (first | (with_reducible assumption) | exact Below.refl _ _ | (with_reducible refine Below.alloc ?_ (by first | omega | (simp <;> omega)) _) | (with_reducible refine Below.setCell ?_ (by first | omega | (simp <;> omega)) _) | (with_reducible refine Below.drew ?_)))) (by omega))) (Nat.le_refl _)) hn.out h0 hl (by omega) (by first | (simp; done) | (simp; omega)) ?_
        intro A6 c6 w6 hat6 hgr6 hn6 hm6
        have hT6 : Below wA.heap.size wA w6 := Below.grown (by repeat (first | (with_reducible assumption) | exact Below.refl _ _ | (with_reducible refine Below.alloc ?_ (by first | omega | (simp <;> omega)) _) | (with_reducible refine Below.setCell ?_ (by first | omega | (simp <;> omega)) _) | (with_reducible refine Below.drew ?_))) hgr6 (by first | (simp; done) | (simp; omega)) (fun k e => by cases e; first | (simp; done) | (simp; omega))
        have hs6 := hT6.size
        refine hK.out _ _ (hAll.out _ hT6) (fun hS2 => ?_)
        clear hK K
        (try go_simp)
        refine wpAnyH_ready (rs := [4, 8]) (by kernel_rfl) (by simp) ?_
        refine (AllReadyH.cons rfl (fun K hK => ?_) (AllReadyH.cons rfl (fun K hK => ?_) AllReadyH.nil))
        · skip
          go_simp
          go_wp2_with (go_at_call 47; refine Calls.mono (hG _ _ _ (Lay.at_mono hat6 (Nat.zero_le _))) ?_; rintro e w9 ⟨rfl, hb9⟩)
          have hT9 : Below wA.heap.size wA w9 := Below.trans hT6 (hb9.mono (by have := hT6.size; first | omega | (simp; omega)))
          have hs9 := hT9.size
          refine hK.out _ _ (hAll.out _ hT9) (fun hS3 => ?_)
          clear hK K
          (try go_simp)
          (try go_simp)
          refine wpAnyH_take (i := 5) (v := ?_) rfl (by kernel_rfl) (by kernel_rfl) (by kernel_rfl) (fun _ _ _ h => h) (Or.inl ⟨by rfl, ?_⟩) hS3 ?_
          rotate_left
          · (intro W hSw; (try dsimp only at hSw); go_split_ands; go_simp; (try with_reducible rfl))
          (try go_simp)
          (try go_simp)
          refine wpAnyH_take (i := 6) (v := ?_) rfl (by kernel_rfl) (by kernel_rfl) (by kernel_rfl) (fun _ _ _ h => h) (Or.inl ⟨by rfl, ?_⟩) hS3 ?_
          rotate_left
          · (intro W hSw; (try dsimp only at hSw); go_split_ands; go_simp; (try with_reducible rfl))
          (try go_simp)
          (try go_simp)
          refine wpAnyH_take (i := 7) (v := ?_) rfl (by kernel_rfl) (by kernel_rfl) (by kernel_rfl) (fun _ _ _ h => h) (Or.inl ⟨by rfl, ?_⟩) hS3 ?_
          rotate_left
          · (intro W hSw; (try dsimp only at hSw); go_split_ands; go_simp; (try with_reducible rfl))
          (try go_simp)
          refine wpAnyH_ready (rs := [8]) (by kernel_rfl) (by simp) ?_
          refine (AllReadyH.cons rfl (fun K hK => ?_) AllReadyH.nil)
          go_simp
          refine hK.out _ _ (hAll.out _ (by repeat (first | (with_reducible assumption) | exact Below.refl _ _ | (with_reducible refine Below.alloc ?_ (by first | omega | (simp <;> omega)) _) | (with_reducible refine Below.setCell ?_ (by first | omega | (simp <;> omega)) _) | (with_reducible refine Below.drew ?_)))) (fun hS4 => ?_)
          clear hK K
          (try go_simp)
          refine wpAnyH_ready (rs := [9]) (by kernel_rfl) (by simp) ?_
          refine (AllReadyH.cons rfl (fun K hK => ?_) AllReadyH.nil)
          go_simp
          refine hK.out _ _ (hAll.out _ (by repeat (first | (with_reducible assumption) | exact Below.refl _ _ | (with_reducible refine Below.alloc ?_ (by first | omega | (simp <;> omega)) _) | (with_reducible refine Below.setCell ?_ (by first | omega | (simp <;> omega)) _) | (with_reducible refine Below.drew ?_)))) (fun hS5 => ?_)
          clear hK K
          (try go_simp)
          (try go_simp)
          refine wpAnyH_take (i := 10) (v := ?_) rfl (by kernel_rfl) (by kernel_rfl) (by kernel_rfl) (fun _ _ _ h => h) (Or.inl ⟨by rfl, ?_⟩) hS5 ?_
          rotate_left
          · (intro W hSw; (try dsimp only at hSw); go_split_ands; go_simp; (try with_reducible rfl))
          (try go_simp)
          refine wpAnyH_done (by kernel_rfl) ?_ _
          (try go_simp)
          go_wp2_with fail
          go_meet
          exact ⟨_, rfl, rfl, by have := hT9.size; omega, by first | (simp; done) | (simp; omega), by simp [go_sem], by simp [go_sem], (show Below _ _ _ from (by repeat (first | (with_reducible assumption) | exact Below.refl _ _ | (with_reducible refine Below.alloc ?_ (by first | omega | (simp <;> omega)) _) | (with_reducible refine Below.setCell ?_ (by first | omega | (simp <;> omega)) _) | (with_reducible refine Below.drew ?_))))⟩
        · skip
          go_simp
          refine hK.out _ _ (hAll.out _ (by repeat (first | (with_reducible assumption) | exact Below.refl _ _ | (with_reducible refine Below.alloc ?_ (by first | omega | (simp <;> omega)) _) | (with_reducible refine Below.setCell ?_ (by first | omega | (simp <;> omega)) _) | (with_reducible refine Below.drew ?_)))) (fun hS3 => ?_)
          clear hK K
          (try go_simp)
          refine wpAnyH_ready (rs := [4]) (by kernel_rfl) (by simp) ?_
          refine (AllReadyH.cons rfl (fun K hK => ?_) AllReadyH.nil)
          go_simp
          go_wp2_with (go_at_call 47; refine Calls.mono (hG _ _ _ (Lay.at_mono (Lay.at_below hat6 ((Below.refl _ _).alloc (Nat.le_refl _) _) (Nat.le_refl _)) (Nat.zero_le _))) ?_; rintro e w9 ⟨rfl, hb9⟩)
          have hT9 : Below wA.heap.size wA w9 := Below.trans (hT6.alloc hT6.size _) (hb9.mono (by have := hT6.size; first | omega | (simp; omega)))
          have hs9 := hT9.size
          have k0 : w9.cell? ⟨w6.heap.size, 0, none⟩ = some (.int .i64 0) := (hb9.cell (p := ⟨w6.heap.size, 0, none⟩) (by show w6.heap.size < _; first | omega | (simp; done) | (simp; omega))).trans (by simp [go_sem])
          have f0 : w9.frozen? ⟨w6.heap.size, 0, none⟩ = false := (hb9.frozen (p := ⟨w6.heap.size, 0, none⟩) (by show w6.heap.size < _; first | omega | (simp; done) | (simp; omega))).trans (by simp [go_sem])
          have k1 : w9.cell? ⟨w6.heap.size, 1, none⟩ = some (.int .i64 0) := (hb9.cell (p := ⟨w6.heap.size, 1, none⟩) (by show w6.heap.size < _; first | omega | (simp; done) | (simp; omega))).trans (by simp [go_sem])
          have f1 : w9.frozen? ⟨w6.heap.size, 1, none⟩ = false := (hb9.frozen (p := ⟨w6.heap.size, 1, none⟩) (by show w6.heap.size < _; first | omega | (simp; done) | (simp; omega))).trans (by simp [go_sem])
          have lk : w6.heap.size < w9.heap.size := by have := hb9.size; simp at this; omega
          refine hK.out _ _ (hAll.out _ hT9) (fun hS4 => ?_)
          clear hK K
          (try go_simp)
          (try go_simp)
          refine wpAnyH_take (i := 5) (v := ?_) rfl (by kernel_rfl) (by kernel_rfl) (by kernel_rfl) (fun _ _ _ h => h) (Or.inl ⟨by rfl, ?_⟩) hS4 ?_
          rotate_left
          · (intro W hSw; (try dsimp only at hSw); go_split_ands; go_simp; (try with_reducible rfl))
          (try go_simp)
          (try go_simp)
          refine wpAnyH_take (i := 6) (v := ?_) rfl (by kernel_rfl) (by kernel_rfl) (by kernel_rfl) (fun _ _ _ h => h) (Or.inl ⟨by rfl, ?_⟩) hS4 ?_
          rotate_left
          · (intro W hSw; (try dsimp only at hSw); go_split_ands; go_simp; (try with_reducible rfl))
          (try go_simp)
          (try go_simp)
          refine wpAnyH_take (i := 7) (v := ?_) rfl (by kernel_rfl) (by kernel_rfl) (by kernel_rfl) (fun _ _ _ h => h) (Or.inl ⟨by rfl, ?_⟩) hS4 ?_
          rotate_left
          · (intro W hSw; (try dsimp only at hSw); go_split_ands; go_simp; (try with_reducible rfl))
          (try go_simp)
          refine wpAnyH_ready (rs := [9]) (by kernel_rfl) (by simp) ?_
          refine (AllReadyH.cons rfl (fun K hK => ?_) AllReadyH.nil)
          go_simp
          refine hK.out _ _ (hAll.out _ (by repeat (first | (with_reducible assumption) | exact Below.refl _ _ | (with_reducible refine Below.alloc ?_ (by first | omega | (simp <;> omega)) _) | (with_reducible refine Below.setCell ?_ (by first | omega | (simp <;> omega)) _) | (with_reducible refine Below.drew ?_)))) (fun hS5 => ?_)
          clear hK K
          (try go_simp)
          (try go_simp)
          refine wpAnyH_take (i := 10) (v := ?_) rfl (by kernel_rfl) (by kernel_rfl) (by kernel_rfl) (fun _ _ _ h => h) (Or.inl ⟨by rfl, ?_⟩) hS5 ?_
          rotate_left
          · (intro W hSw; (try dsimp only at hSw); go_split_ands; go_simp; (try with_reducible rfl))
          (try go_simp)
          refine wpAnyH_done (by kernel_rfl) ?_ _
          (try go_simp)
          go_wp2_with fail
          go_meet
          exact ⟨_, rfl, rfl, by first | omega | (simp; done) | (simp; omega), by first | omega | (simp; done) | (simp; omega), by simp [go_sem, k0, k1, lk], by simp [go_sem, k0, k1, lk], (show Below _ _ _ from (by repeat (first | (with_reducible assumption) | exact Below.refl _ _ | (with_reducible refine Below.alloc ?_ (by first | omega | (simp <;> omega)) _) | (with_reducible refine Below.setCell ?_ (by first | omega | (simp <;> omega)) _) | (with_reducible refine Below.drew ?_))))⟩
      · go_simp
        refine hK.out _ _ (hAll.out _ (by repeat (first | (with_reducible assumption) | exact Below.refl _ _ | (with_reducible refine Below.alloc ?_ (by first | omega | (simp <;> omega)) _) | (with_reducible refine Below.setCell ?_ (by first | omega | (simp <;> omega)) _) | (with_reducible refine Below.drew ?_)))) (fun hS2 => ?_)
        clear hK K
        (try go_simp)
        refine wpAnyH_ready (rs := [3]) (by kernel_rfl) (by simp) ?_
        refine (AllReadyH.cons rfl (fun K hK => ?_) AllReadyH.nil)
        refine step_append_copy gpL rfl _ _ _ (by rfl) 102 i5 _ 24 Try.underlying93 hi5 hz5 hs5 hb5 rfl _ (by rfl) (by exact ((ownsRow_emptyK wA _ 3).alloc _).drew) A n cc lo gs (by rfl) (Lay.at_below HX.out (hBA.trans (Below.mono (show Below wA.heap.size wA _ from (by repeat (first | (with_reducible assumption) | exact Below.refl _ _ | (with_reducible refine Below.alloc ?_ (by first | omega | (simp <;> omega)) _) | (with_reducible refine Below.setCell ?_ (by first | omega | (simp <;> omega)) _) | (with_reducible refine Below.drew ?_)))) (by omega))) (Nat.le_refl _)) hn.out h0 hl (by omega) (by first | (simp; done) | (simp; omega)) ?_
        intro A6 c6 w6 hat6 hgr6 hn6 hm6
        have hT6 : Below wA.heap.size wA w6 := Below.grown (by repeat (first | (with_reducible assumption) | exact Below.refl _ _ | (with_reducible refine Below.alloc ?_ (by first | omega | (simp <;> omega)) _) | (with_reducible refine Below.setCell ?_ (by first | omega | (simp <;> omega)) _) | (with_reducible refine Below.drew ?_))) hgr6 (by first | (simp; done) | (simp; omega)) (fun k e => by cases e; first | (simp; done) | (simp; omega))
        have hs6 := hT6.size
        have m0 : w6.cell? ⟨wA.heap.size + 1, 0, none⟩ = some (.int .i64 0) := (hgr6.cell_far ⟨wA.heap.size + 1, 0, none⟩ (by first | (simp; done) | (simp; omega)) (by simp)).trans (by simp [go_sem])
        have p0 : w6.frozen? ⟨wA.heap.size + 1, 0, none⟩ = false := (hgr6.frozen_far ⟨wA.heap.size + 1, 0, none⟩ (by first | (simp; done) | (simp; omega)) (by simp)).trans (by simp [go_sem])
        have m1 : w6.cell? ⟨wA.heap.size + 1, 1, none⟩ = some (.int .i64 0) := (hgr6.cell_far ⟨wA.heap.size + 1, 1, none⟩ (by first | (simp; done) | (simp; omega)) (by simp)).trans (by simp [go_sem])
        have p1 : w6.frozen? ⟨wA.heap.size + 1, 1, none⟩ = false := (hgr6.frozen_far ⟨wA.heap.size + 1, 1, none⟩ (by first | (simp; done) | (simp; omega)) (by simp)).trans (by simp [go_sem])
        have hgz := hgr6.size
        simp only [World.size_alloc, World.size_drew] at hgz
        have lm : wA.heap.size + 1 < w6.heap.size := by omega
        refine hK.out _ _ (hAll.out _ hT6) (fun hS3 => ?_)
        clear hK K
        (try go_simp)
        refine wpAnyH_ready (rs := [4]) (by kernel_rfl) (by simp) ?_
        refine (AllReadyH.cons rfl (fun K hK => ?_) AllReadyH.nil)
        go_simp
        go_wp2_with (go_at_call 47; refine Calls.mono (hG _ _ _ (Lay.at_mono hat6 (Nat.zero_le _))) ?_; rintro e w9 ⟨rfl, hb9⟩)
        have hT9 : Below wA.heap.size wA w9 := Below.trans hT6 (hb9.mono (by have := hT6.size; first | omega | (simp; omega)))
        have hs9 := hT9.size
        have k0 : w9.cell? ⟨wA.heap.size + 1, 0, none⟩ = some (.int .i64 0) := (hb9.cell (p := ⟨wA.heap.size + 1, 0, none⟩) (by show wA.heap.size + 1 < _; first | omega | (simp; done) | (simp; omega))).trans m0
        have f0 : w9.frozen? ⟨wA.heap.size + 1, 0, none⟩ = false := (hb9.frozen (p := ⟨wA.heap.size + 1, 0, none⟩) (by show wA.heap.size + 1 < _; first | omega | (simp; done) | (simp; omega))).trans p0
        have k1 : w9.cell? ⟨wA.heap.size + 1, 1, none⟩ = some (.int .i64 0) := (hb9.cell (p := ⟨wA.heap.size + 1, 1, none⟩) (by show wA.heap.size + 1 < _; first | omega | (simp; done) | (simp; omega))).trans m1
        have f1 : w9.frozen? ⟨wA.heap.size + 1, 1, none⟩ = false := (hb9.frozen (p := ⟨wA.heap.size + 1, 1, none⟩) (by show wA.heap.size + 1 < _; first | omega | (simp; done) | (simp; omega))).trans p1
        have lk : wA.heap.size + 1 < w9.heap.size := by have := hb9.size; omega
        refine hK.out _ _ (hAll.out _ hT9) (fun hS4 => ?_)
        clear hK K
        (try go_simp)
        (try go_simp)
        refine wpAnyH_take (i := 5) (v := ?_) rfl (by kernel_rfl) (by kernel_rfl) (by kernel_rfl) (fun _ _ _ h => h) (Or.inl ⟨by rfl, ?_⟩) hS4 ?_
        rotate_left
        · (intro W hSw; (try dsimp only at hSw); go_split_ands; go_simp; (try with_reducible rfl))
        (try go_simp)
        (try go_simp)
        refine wpAnyH_take (i := 6) (v := ?_) rfl (by kernel_rfl) (by kernel_rfl) (by kernel_rfl) (fun _ _ _ h => h) (Or.inl ⟨by rfl, ?_⟩) hS4 ?_
        rotate_left
        · (intro W hSw; (try dsimp only at hSw); go_split_ands; go_simp; (try with_reducible rfl))
        (try go_simp)
        (try go_simp)
        refine wpAnyH_take (i := 7) (v := ?_) rfl (by kernel_rfl) (by kernel_rfl) (by kernel_rfl) (fun _ _ _ h => h) (Or.inl ⟨by rfl, ?_⟩) hS4 ?_
        rotate_left
        · (intro W hSw; (try dsimp only at hSw); go_split_ands; go_simp; (try with_reducible rfl))
        (try go_simp)
        refine wpAnyH_ready (rs := [9]) (by kernel_rfl) (by simp) ?_
        refine (AllReadyH.cons rfl (fun K hK => ?_) AllReadyH.nil)
        go_simp
        refine hK.out _ _ (hAll.out _ (by repeat (first | (with_reducible assumption) | exact Below.refl _ _ | (with_reducible refine Below.alloc ?_ (by first | omega | (simp <;> omega)) _) | (with_reducible refine Below.setCell ?_ (by first | omega | (simp <;> omega)) _) | (with_reducible refine Below.drew ?_)))) (fun hS5 => ?_)
        clear hK K
        (try go_simp)
        (try go_simp)
        refine wpAnyH_take (i := 10) (v := ?_) rfl (by kernel_rfl) (by kernel_rfl) (by kernel_rfl) (fun _ _ _ h => h) (Or.inl ⟨by rfl, ?_⟩) hS5 ?_
        rotate_left
        · (intro W hSw; (try dsimp only at hSw); go_split_ands; go_simp; (try with_reducible rfl))
        (try go_simp)
        refine wpAnyH_done (by kernel_rfl) ?_ _
        (try go_simp)
        go_wp2_with fail
        go_meet
        exact ⟨_, rfl, rfl, by first | omega | (simp; done) | (simp; omega), by first | omega | (simp; done) | (simp; omega), by simp [go_sem, k0, k1, lk], by simp [go_sem, k0, k1, lk], (show Below _ _ _ from (by repeat (first | (with_reducible assumption) | exact Below.refl _ _ | (with_reducible refine Below.alloc ?_ (by first | omega | (simp <;> omega)) _) | (with_reducible refine Below.setCell ?_ (by first | omega | (simp <;> omega)) _) | (with_reducible refine Below.drew ?_))))⟩
    · go_simp
      refine hK.out _ _ (hAll.out _ (by repeat (first | (with_reducible assumption) | exact Below.refl _ _ | (with_reducible refine Below.alloc ?_ (by first | omega | (simp <;> omega)) _) | (with_reducible refine Below.setCell ?_ (by first | omega | (simp <;> omega)) _) | (with_reducible refine Below.drew ?_)))) (fun hS1 => ?_)
      clear hK K
      (try go_simp)
      refine wpAnyH_ready (rs := [1]) (by kernel_rfl) (by simp) ?_
      refine (AllReadyH.cons rfl (fun K hK => ?_) AllReadyH.nil)
      go_simp
      refine hK.out _ _ (hAll.out _ (by repeat (first | (with_reducible assumption) | exact Below.refl _ _ | (with_reducible refine Below.alloc ?_ (by first | omega | (simp <;> omega)) _) | (with_reducible refine Below.setCell ?_ (by first | omega | (simp <;> omega)) _) | (with_reducible refine Below.drew ?_)))) (fun hS2 => ?_)
      clear hK K
      (try go_simp)
      refine wpAnyH_ready (rs := [3]) (by kernel_rfl) (by simp) ?_
      refine (AllReadyH.cons rfl (fun K hK => ?_) AllReadyH.nil)
      refine step_append_copy gpL rfl _ _ _ (by rfl) 102 i5 _ 24 Try.underlying93 hi5 hz5 hs5 hb5 rfl _ (by rfl) (by have hq := (ownsRow_emptyK (wA.alloc (.cells #[.int .i64 0, .int .i64 0] 23)) 102 3).drew; simp at hq; exact hq) A n cc lo gs (by rfl) (Lay.at_below HX.out (hBA.trans (Below.mono (show Below wA.heap.size wA _ from (by repeat (first | (with_reducible assumption) | exact Below.refl _ _ | (with_reducible refine Below.alloc ?_ (by first | omega | (simp <;> omega)) _) | (with_reducible refine Below.setCell ?_ (by first | omega | (simp <;> omega)) _) | (with_reducible refine Below.drew ?_)))) (by omega))) (Nat.le_refl _)) hn.out h0 hl (by omega) (by first | (simp; done) | (simp; omega)) ?_
      intro A6 c6 w6 hat6 hgr6 hn6 hm6
      have hT6 : Below wA.heap.size wA w6 := Below.grown (by repeat (first | (with_reducible assumption) | exact Below.refl _ _ | (with_reducible refine Below.alloc ?_ (by first | omega | (simp <;> omega)) _) | (with_reducible refine Below.setCell ?_ (by first | omega | (simp <;> omega)) _) | (with_reducible refine Below.drew ?_))) hgr6 (by first | (simp; done) | (simp; omega)) (fun k e => by cases e; first | (simp; done) | (simp; omega))
      have hs6 := hT6.size
      have m0 : w6.cell? ⟨wA.heap.size, 0, none⟩ = some (.int .i64 0) := (hgr6.cell_far ⟨wA.heap.size, 0, none⟩ (by first | (simp; done) | (simp; omega)) (by simp)).trans (by simp [go_sem])
      have p0 : w6.frozen? ⟨wA.heap.size, 0, none⟩ = false := (hgr6.frozen_far ⟨wA.heap.size, 0, none⟩ (by first | (simp; done) | (simp; omega)) (by simp)).trans (by simp [go_sem])
      have m1 : w6.cell? ⟨wA.heap.size, 1, none⟩ = some (.int .i64 0) := (hgr6.cell_far ⟨wA.heap.size, 1, none⟩ (by first | (simp; done) | (simp; omega)) (by simp)).trans (by simp [go_sem])
      have p1 : w6.frozen? ⟨wA.heap.size, 1, none⟩ = false := (hgr6.frozen_far ⟨wA.heap.size, 1, none⟩ (by first | (simp; done) | (simp; omega)) (by simp)).trans (by simp [go_sem])
      have hgz := hgr6.size
      simp only [World.size_alloc, World.size_drew] at hgz
      have lm : wA.heap.size < w6.heap.size := by omega
      refine hK.out _ _ (hAll.out _ hT6) (fun hS3 => ?_)
      clear hK K
      (try go_simp)
      refine wpAnyH_ready (rs := [4]) (by kernel_rfl) (by simp) ?_
      refine (AllReadyH.cons rfl (fun K hK => ?_) AllReadyH.nil)
      go_simp
      go_wp2_with (go_at_call 47; refine Calls.mono (hG _ _ _ (Lay.at_mono hat6 (Nat.zero_le _))) ?_; rintro e w9 ⟨rfl, hb9⟩)
      have hT9 : Below wA.heap.size wA w9 := Below.trans hT6 (hb9.mono (by have := hT6.size; first | omega | (simp; omega)))
      have hs9 := hT9.size
      have k0 : w9.cell? ⟨wA.heap.size, 0, none⟩ = some (.int .i64 0) := (hb9.cell (p := ⟨wA.heap.size, 0, none⟩) (by show wA.heap.size < _; first | omega | (simp; done) | (simp; omega))).trans m0
      have f0 : w9.frozen? ⟨wA.heap.size, 0, none⟩ = false := (hb9.frozen (p := ⟨wA.heap.size, 0, none⟩) (by show wA.heap.size < _; first | omega | (simp; done) | (simp; omega))).trans p0
      have k1 : w9.cell? ⟨wA.heap.size, 1, none⟩ = some (.int .i64 0) := (hb9.cell (p := ⟨wA.heap.size, 1, none⟩) (by show wA.heap.size < _; first | omega | (simp; done) | (simp; omega))).trans m1
      have f1 : w9.frozen? ⟨wA.heap.size, 1, none⟩ = false := (hb9.frozen (p := ⟨wA.heap.size, 1, none⟩) (by show wA.heap.size < _; first | omega | (simp; done) | (simp; omega))).trans p1
      have lk : wA.heap.size < w9.heap.size := by have := hb9.size; omega
      refine hK.out _ _ (hAll.out _ hT9) (fun hS4 => ?_)
      clear hK K
      (try go_simp)
      (try go_simp)
      refine wpAnyH_take (i := 5) (v := ?_) rfl (by kernel_rfl) (by kernel_rfl) (by kernel_rfl) (fun _ _ _ h => h) (Or.inl ⟨by rfl, ?_⟩) hS4 ?_
      rotate_left
      · (intro W hSw; (try dsimp only at hSw); go_split_ands; go_simp; (try with_reducible rfl))
      (try go_simp)
      (try go_simp)
      refine wpAnyH_take (i := 6) (v := ?_) rfl (by kernel_rfl) (by kernel_rfl) (by kernel_rfl) (fun _ _ _ h => h) (Or.inl ⟨by rfl, ?_⟩) hS4 ?_
      rotate_left
      · (intro W hSw; (try dsimp only at hSw); go_split_ands; go_simp; (try with_reducible rfl))
      (try go_simp)
      (try go_simp)
      refine wpAnyH_take (i := 7) (v := ?_) rfl (by kernel_rfl) (by kernel_rfl) (by kernel_rfl) (fun _ _ _ h => h) (Or.inl ⟨by rfl, ?_⟩) hS4 ?_
      rotate_left
      · (intro W hSw; (try dsimp only at hSw); go_split_ands; go_simp; (try with_reducible rfl))
      (try go_simp)
      refine wpAnyH_ready (rs := [9]) (by kernel_rfl) (by simp) ?_
      refine (AllReadyH.cons rfl (fun K hK => ?_) AllReadyH.nil)
      go_simp
      refine hK.out _ _ (hAll.out _ (by repeat (first | (with_reducible assumption) | exact Below.refl _ _ | (with_reducible refine Below.alloc ?_ (by first | omega | (simp <;> omega)) _) | (with_reducible refine Below.setCell ?_ (by first | omega | (simp <;> omega)) _) | (with_reducible refine Below.drew ?_)))) (fun hS5 => ?_)
      clear hK K
      (try go_simp)
      (try go_simp)
      refine wpAnyH_take (i := 10) (v := ?_) rfl (by kernel_rfl) (by kernel_rfl) (by kernel_rfl) (fun _ _ _ h => h) (Or.inl ⟨by rfl, ?_⟩) hS5 ?_
      rotate_left
      · (intro W hSw; (try dsimp only at hSw); go_split_ands; go_simp; (try with_reducible rfl))
      (try go_simp)
      refine wpAnyH_done (by kernel_rfl) ?_ _
      (try go_simp)
      go_wp2_with fail
      go_meet
      exact ⟨_, rfl, rfl, by first | omega | (simp; done) | (simp; omega), by first | omega | (simp; done) | (simp; omega), by simp [go_sem, k0, k1, lk], by simp [go_sem, k0, k1, lk], (show Below _ _ _ from (by repeat (first | (with_reducible assumption) | exact Below.refl _ _ | (with_reducible refine Below.alloc ?_ (by first | omega | (simp <;> omega)) _) | (with_reducible refine Below.setCell ?_ (by first | omega | (simp <;> omega)) _) | (with_reducible refine Below.drew ?_))))⟩
  case rest =>
    obtain ⟨b9, rfl, rfl, g9, l9, c90, c91, hT2⟩ := hcut
    obtain ⟨wB, hWX⟩ : ∃ wX, wX = wc := ⟨_, rfl⟩
    subst hWX
    have hTs := hT2.out.size
    replace hBA : Below w.heap.size w wB := hBA.trans (hT2.out.mono (by omega))
    replace q0 := (hT2.out.cell hA0).trans q0
    replace q1 := (hT2.out.cell hA0).trans q1
    replace q2 := (hT2.out.cell hA0).trans q2
    replace q3 := (hT2.out.cell hA0).trans q3
    replace q4 := (hT2.out.cell hA0).trans q4
    replace q5 := (hT2.out.cell hA0).trans q5
    replace q6 := (hT2.out.cell hA0).trans q6
    replace q7 := (hT2.out.cell hA0).trans q7
    replace q8 := (hT2.out.cell hA0).trans q8
    replace q9 := (hT2.out.cell hA0).trans q9
    replace s0 := (hT2.out.cell hA1).trans s0
    replace s1 := (hT2.out.cell hA1).trans s1
    replace s2 := (hT2.out.cell hA1).trans s2
    replace s3 := (hT2.out.cell hA1).trans s3
    replace c70 := (hT2.out.cell l7).trans c70
    replace c71 := (hT2.out.cell l7).trans c71
    replace c80 := (hT2.out.cell l8).trans c80
    replace c81 := (hT2.out.cell l8).trans c81
    replace hA0 : w.heap.size < wB.heap.size := by omega
    replace hA1 : w.heap.size + 1 < wB.heap.size := by omega
    replace l7 : b7 < wB.heap.size := by omega
    replace l8 : b8 < wB.heap.size := by omega
    go_wp2_with fail
    exact gives_t4 r x0 x1 x2 x3 lo A n cc gs w HX h0 hn hl (by omega) x y er ec Her Hxx Hyy wB hA0 hA1 hBA q0 q1 q2 q3 q4 q5 q6 q7 q8 q9 s0 s1 s2 s3 b7 b8 l7 l8 c70 c71 c80 c81 b9 l9 c90 c91

set_option maxRecDepth 100000 in
set_option maxHeartbeats 4000000 in
theorem gives_law (r : TR) (x0 x1 x2 x3 : Int) (lo : Nat) (A : Option Addr) (n cc : Nat) (gs : List Gp) (w : World) (hx : gpL.at w lo A gs) (h0 : A = none → n = 0 ∧ cc = 0) (hn : Aside (gs.length = n)) (hl : n ≤ maxLen) :
    Calls Try.prog 12 #[rV r, .slice A n cc, .agg #[.int .i64 x0, .int .i64 x1, .int .i64 x2, .int .i64 x3]] w fun e w' => e = .returned (.bool true) ∧ Below w.heap.size w w' := by
  have hkn := fun (W : World) => known_any W
  by_cases hlo : 70 < n
  · have hz : (70 : Int) < (n : Int) := by omega
    unfold rV
    go_enter Try.func12, Try.ntmps12
    go_wp2_with fail
    refine (hkn _).mono ?_
    rintro e w5 ⟨rfl, hb5⟩
    go_wp2
    go_ret
    exact ⟨rfl, (by (try show Below _ _ _); repeat (first | (with_reducible refine Below.setCell ?_ (by first | omega | (simp <;> omega)) _) | (with_reducible refine Below.alloc ?_ (by first | omega | (simp <;> omega)) _) | (with_reducible refine Below.drew ?_) | (with_reducible exact Below.refl _ _) | (with_reducible exact hb5) | (with_reducible refine below_call ?_ (by assumption) (by first | omega | (simp <;> omega))) | (with_reducible refine below_call ?_ (Drew.below (by assumption) _) (by first | omega | (simp <;> omega)))))⟩
  · have hz : ¬ (70 : Int) < (n : Int) := by omega
    have HX : Aside (gpL.at w lo A gs) := hx
    obtain ⟨er, her⟩ : ∃ er, errG r gs = er := ⟨_, rfl⟩
    obtain ⟨x, hxx⟩ : ∃ x, (if er = 0 then sumR (gs.map (giveR r)) else R.d) = x := ⟨_, rfl⟩
    obtain ⟨⟨y, ec⟩, hyy⟩ : ∃ yy, cropS er (sumR (gs.map (giveR r))) x0 x1 = yy := ⟨_, rfl⟩
    have Her : Aside (errG r gs = er) := her
    have Hxx : Aside ((if er = 0 then sumR (gs.map (giveR r)) else R.d) = x) := hxx
    have Hyy : Aside (cropS er (sumR (gs.map (giveR r))) x0 x1 = (y, ec)) := hyy
    rw [show rV r = .agg #[.int .i64 r.frost, .int .i64 r.thaw, .int .i64 r.gain, .int .i64 r.full, .int .i64 r.ice, .int .i64 r.most, .int .i64 r.melt, .int .i64 r.rlow, .int .i64 r.rhigh, .int .i64 r.pull] from rfl]
    clear hx hxx her hyy hlo
    go_enter Try.func12, Try.ntmps12
    refine wp_tail 3 (R := tail3) (show tail3 = dropC 3 (bodyC Try.f12) from rfl) ?_
    conv => arg 2; simp only [bodyC, Try.f12, Option.getD_some, dropC, mkC]
    go_wp2_with fail
    go_upto_region 3 with (fail)
    have q0 : ((w.alloc (.cells #[.int .i64 r.frost, .int .i64 r.thaw, .int .i64 r.gain, .int .i64 r.full, .int .i64 r.ice, .int .i64 r.most, .int .i64 r.melt, .int .i64 r.rlow, .int .i64 r.rhigh, .int .i64 r.pull] 25)).alloc (.cells #[.int .i64 x0, .int .i64 x1, .int .i64 x2, .int .i64 x3] 94)).cell? ⟨w.heap.size, 0, none⟩ = some (.int .i64 r.frost) := by simp [go_sem]
    have q1 : ((w.alloc (.cells #[.int .i64 r.frost, .int .i64 r.thaw, .int .i64 r.gain, .int .i64 r.full, .int .i64 r.ice, .int .i64 r.most, .int .i64 r.melt, .int .i64 r.rlow, .int .i64 r.rhigh, .int .i64 r.pull] 25)).alloc (.cells #[.int .i64 x0, .int .i64 x1, .int .i64 x2, .int .i64 x3] 94)).cell? ⟨w.heap.size, 1, none⟩ = some (.int .i64 r.thaw) := by simp [go_sem]
    have q2 : ((w.alloc (.cells #[.int .i64 r.frost, .int .i64 r.thaw, .int .i64 r.gain, .int .i64 r.full, .int .i64 r.ice, .int .i64 r.most, .int .i64 r.melt, .int .i64 r.rlow, .int .i64 r.rhigh, .int .i64 r.pull] 25)).alloc (.cells #[.int .i64 x0, .int .i64 x1, .int .i64 x2, .int .i64 x3] 94)).cell? ⟨w.heap.size, 2, none⟩ = some (.int .i64 r.gain) := by simp [go_sem]
    have q3 : ((w.alloc (.cells #[.int .i64 r.frost, .int .i64 r.thaw, .int .i64 r.gain, .int .i64 r.full, .int .i64 r.ice, .int .i64 r.most, .int .i64 r.melt, .int .i64 r.rlow, .int .i64 r.rhigh, .int .i64 r.pull] 25)).alloc (.cells #[.int .i64 x0, .int .i64 x1, .int .i64 x2, .int .i64 x3] 94)).cell? ⟨w.heap.size, 3, none⟩ = some (.int .i64 r.full) := by simp [go_sem]
    have q4 : ((w.alloc (.cells #[.int .i64 r.frost, .int .i64 r.thaw, .int .i64 r.gain, .int .i64 r.full, .int .i64 r.ice, .int .i64 r.most, .int .i64 r.melt, .int .i64 r.rlow, .int .i64 r.rhigh, .int .i64 r.pull] 25)).alloc (.cells #[.int .i64 x0, .int .i64 x1, .int .i64 x2, .int .i64 x3] 94)).cell? ⟨w.heap.size, 4, none⟩ = some (.int .i64 r.ice) := by simp [go_sem]
    have q5 : ((w.alloc (.cells #[.int .i64 r.frost, .int .i64 r.thaw, .int .i64 r.gain, .int .i64 r.full, .int .i64 r.ice, .int .i64 r.most, .int .i64 r.melt, .int .i64 r.rlow, .int .i64 r.rhigh, .int .i64 r.pull] 25)).alloc (.cells #[.int .i64 x0, .int .i64 x1, .int .i64 x2, .int .i64 x3] 94)).cell? ⟨w.heap.size, 5, none⟩ = some (.int .i64 r.most) := by simp [go_sem]
    have q6 : ((w.alloc (.cells #[.int .i64 r.frost, .int .i64 r.thaw, .int .i64 r.gain, .int .i64 r.full, .int .i64 r.ice, .int .i64 r.most, .int .i64 r.melt, .int .i64 r.rlow, .int .i64 r.rhigh, .int .i64 r.pull] 25)).alloc (.cells #[.int .i64 x0, .int .i64 x1, .int .i64 x2, .int .i64 x3] 94)).cell? ⟨w.heap.size, 6, none⟩ = some (.int .i64 r.melt) := by simp [go_sem]
    have q7 : ((w.alloc (.cells #[.int .i64 r.frost, .int .i64 r.thaw, .int .i64 r.gain, .int .i64 r.full, .int .i64 r.ice, .int .i64 r.most, .int .i64 r.melt, .int .i64 r.rlow, .int .i64 r.rhigh, .int .i64 r.pull] 25)).alloc (.cells #[.int .i64 x0, .int .i64 x1, .int .i64 x2, .int .i64 x3] 94)).cell? ⟨w.heap.size, 7, none⟩ = some (.int .i64 r.rlow) := by simp [go_sem]
    have q8 : ((w.alloc (.cells #[.int .i64 r.frost, .int .i64 r.thaw, .int .i64 r.gain, .int .i64 r.full, .int .i64 r.ice, .int .i64 r.most, .int .i64 r.melt, .int .i64 r.rlow, .int .i64 r.rhigh, .int .i64 r.pull] 25)).alloc (.cells #[.int .i64 x0, .int .i64 x1, .int .i64 x2, .int .i64 x3] 94)).cell? ⟨w.heap.size, 8, none⟩ = some (.int .i64 r.rhigh) := by simp [go_sem]
    have q9 : ((w.alloc (.cells #[.int .i64 r.frost, .int .i64 r.thaw, .int .i64 r.gain, .int .i64 r.full, .int .i64 r.ice, .int .i64 r.most, .int .i64 r.melt, .int .i64 r.rlow, .int .i64 r.rhigh, .int .i64 r.pull] 25)).alloc (.cells #[.int .i64 x0, .int .i64 x1, .int .i64 x2, .int .i64 x3] 94)).cell? ⟨w.heap.size, 9, none⟩ = some (.int .i64 r.pull) := by simp [go_sem]
    have s0 : ((w.alloc (.cells #[.int .i64 r.frost, .int .i64 r.thaw, .int .i64 r.gain, .int .i64 r.full, .int .i64 r.ice, .int .i64 r.most, .int .i64 r.melt, .int .i64 r.rlow, .int .i64 r.rhigh, .int .i64 r.pull] 25)).alloc (.cells #[.int .i64 x0, .int .i64 x1, .int .i64 x2, .int .i64 x3] 94)).cell? ⟨w.heap.size + 1, 0, none⟩ = some (.int .i64 x0) := by simp [go_sem]
    have s1 : ((w.alloc (.cells #[.int .i64 r.frost, .int .i64 r.thaw, .int .i64 r.gain, .int .i64 r.full, .int .i64 r.ice, .int .i64 r.most, .int .i64 r.melt, .int .i64 r.rlow, .int .i64 r.rhigh, .int .i64 r.pull] 25)).alloc (.cells #[.int .i64 x0, .int .i64 x1, .int .i64 x2, .int .i64 x3] 94)).cell? ⟨w.heap.size + 1, 1, none⟩ = some (.int .i64 x1) := by simp [go_sem]
    have s2 : ((w.alloc (.cells #[.int .i64 r.frost, .int .i64 r.thaw, .int .i64 r.gain, .int .i64 r.full, .int .i64 r.ice, .int .i64 r.most, .int .i64 r.melt, .int .i64 r.rlow, .int .i64 r.rhigh, .int .i64 r.pull] 25)).alloc (.cells #[.int .i64 x0, .int .i64 x1, .int .i64 x2, .int .i64 x3] 94)).cell? ⟨w.heap.size + 1, 2, none⟩ = some (.int .i64 x2) := by simp [go_sem]
    have s3 : ((w.alloc (.cells #[.int .i64 r.frost, .int .i64 r.thaw, .int .i64 r.gain, .int .i64 r.full, .int .i64 r.ice, .int .i64 r.most, .int .i64 r.melt, .int .i64 r.rlow, .int .i64 r.rhigh, .int .i64 r.pull] 25)).alloc (.cells #[.int .i64 x0, .int .i64 x1, .int .i64 x2, .int .i64 x3] 94)).cell? ⟨w.heap.size + 1, 3, none⟩ = some (.int .i64 x3) := by simp [go_sem]
    have hB0 : Below w.heap.size w ((w.alloc (.cells #[.int .i64 r.frost, .int .i64 r.thaw, .int .i64 r.gain, .int .i64 r.full, .int .i64 r.ice, .int .i64 r.most, .int .i64 r.melt, .int .i64 r.rlow, .int .i64 r.rhigh, .int .i64 r.pull] 25)).alloc (.cells #[.int .i64 x0, .int .i64 x1, .int .i64 x2, .int .i64 x3] 94)) := (by (try show Below _ _ _); repeat (first | (with_reducible refine Below.setCell ?_ (by first | omega | (simp <;> omega)) _) | (with_reducible refine Below.alloc ?_ (by first | omega | (simp <;> omega)) _) | (with_reducible refine Below.drew ?_) | (with_reducible exact Below.refl _ _) | (with_reducible refine below_call ?_ (by assumption) (by first | omega | (simp <;> omega))) | (with_reducible refine below_call ?_ (Drew.below (by assumption) _) (by first | omega | (simp <;> omega)))))
    have hz0 : ((w.alloc (.cells #[.int .i64 r.frost, .int .i64 r.thaw, .int .i64 r.gain, .int .i64 r.full, .int .i64 r.ice, .int .i64 r.most, .int .i64 r.melt, .int .i64 r.rlow, .int .i64 r.rhigh, .int .i64 r.pull] 25)).alloc (.cells #[.int .i64 x0, .int .i64 x1, .int .i64 x2, .int .i64 x3] 94)).heap.size = w.heap.size + 2 := by simp
    generalize (w.alloc (.cells #[.int .i64 r.frost, .int .i64 r.thaw, .int .i64 r.gain, .int .i64 r.full, .int .i64 r.ice, .int .i64 r.most, .int .i64 r.melt, .int .i64 r.rlow, .int .i64 r.rhigh, .int .i64 r.pull] 25)).alloc (.cells #[.int .i64 x0, .int .i64 x1, .int .i64 x2, .int .i64 x3] 94) = w0 at *
    have hl0 : w.heap.size < w0.heap.size := by omega
    have hl1 : w.heap.size + 1 < w0.heap.size := by omega
    clear hz0
    go_cut [7, 8] (fun v7 v8 wx => ∃ b7 b8 : Nat, v7 = .pointer (some ⟨b7, 0, none⟩) ∧ v8 = .pointer (some ⟨b8, 0, none⟩) ∧ w0.heap.size ≤ b7 ∧ b7 < wx.heap.size ∧ w0.heap.size ≤ b8 ∧ b8 < wx.heap.size ∧
      wx.cell? ⟨b7, 0, none⟩ = some (.int .i64 x0) ∧ wx.cell? ⟨b7, 1, none⟩ = some (.int .i64 x1) ∧ wx.cell? ⟨b8, 0, none⟩ = some (.int .i64 x2) ∧ wx.cell? ⟨b8, 1, none⟩ = some (.int .i64 x3) ∧ Aside (Below w0.heap.size w0 wx))
    case first =>
      have hAll : Aside (∀ W, Below w0.heap.size w0 W → (Below w0.heap.size w0 W
        ∧ W.cell? ⟨w.heap.size + 1, 0, none⟩ = some (.int .i64 x0)
        ∧ W.cell? ⟨w.heap.size + 1, 1, none⟩ = some (.int .i64 x1)
        ∧ W.cell? ⟨w.heap.size + 1, 2, none⟩ = some (.int .i64 x2)
        ∧ W.cell? ⟨w.heap.size + 1, 3, none⟩ = some (.int .i64 x3)
        )) := fun W h => ⟨h
        , (h.cell (p := ⟨w.heap.size + 1, 0, none⟩) hl1).trans s0
        , (h.cell (p := ⟨w.heap.size + 1, 1, none⟩) hl1).trans s1
        , (h.cell (p := ⟨w.heap.size + 1, 2, none⟩) hl1).trans s2
        , (h.cell (p := ⟨w.heap.size + 1, 3, none⟩) hl1).trans s3
        ⟩
      refine wp_region_held_drew (S := fun W => Below w0.heap.size w0 W
        ∧ W.cell? ⟨w.heap.size + 1, 0, none⟩ = some (.int .i64 x0)
        ∧ W.cell? ⟨w.heap.size + 1, 1, none⟩ = some (.int .i64 x1)
        ∧ W.cell? ⟨w.heap.size + 1, 2, none⟩ = some (.int .i64 x2)
        ∧ W.cell? ⟨w.heap.size + 1, 3, none⟩ = some (.int .i64 x3)
        ) (by kernel_rfl) (hAll.out _ ((Below.refl _ _).drew)) (fun hS0 => ?_)
      (try go_simp)
      refine wpAnyH_take (i := 0) (v := ?_) rfl (by kernel_rfl) (by kernel_rfl) (by kernel_rfl) (fun _ _ _ h => h) (Or.inl ⟨by rfl, ?_⟩) hS0 ?_
      rotate_left
      · (intro W hSw; (try dsimp only at hSw); go_split_ands; go_simp; (try with_reducible rfl))
      (try go_simp)
      (try go_simp)
      refine wpAnyH_take (i := 1) (v := ?_) rfl (by kernel_rfl) (by kernel_rfl) (by kernel_rfl) (fun _ _ _ h => h) (Or.inl ⟨by rfl, ?_⟩) hS0 ?_
      rotate_left
      · (intro W hSw; (try dsimp only at hSw); go_split_ands; go_simp; (try with_reducible rfl))
      (try go_simp)
      (try go_simp)
      refine wpAnyH_take (i := 2) (v := ?_) rfl (by kernel_rfl) (by kernel_rfl) (by kernel_rfl) (fun _ _ _ h => h) (Or.inl ⟨by rfl, ?_⟩) hS0 ?_
      rotate_left
      · (intro W hSw; (try dsimp only at hSw); go_split_ands; go_simp; (try with_reducible rfl))
      (try go_simp)
      (try go_simp)
      refine wpAnyH_take (i := 3) (v := ?_) rfl (by kernel_rfl) (by kernel_rfl) (by kernel_rfl) (fun _ _ _ h => h) (Or.inl ⟨by rfl, ?_⟩) hS0 ?_
      rotate_left
      · (intro W hSw; (try dsimp only at hSw); go_split_ands; go_simp; (try with_reducible rfl))
      (try go_simp)
      (try go_simp)
      refine wpAnyH_take (i := 4) (v := ?_) rfl (by kernel_rfl) (by kernel_rfl) (by kernel_rfl) (fun _ _ _ h => h) (Or.inl ⟨by rfl, ?_⟩) hS0 ?_
      rotate_left
      · (intro W hSw; (try dsimp only at hSw); go_split_ands; go_simp; (try with_reducible rfl))
      (try go_simp)
      (try go_simp)
      refine wpAnyH_take (i := 5) (v := ?_) rfl (by kernel_rfl) (by kernel_rfl) (by kernel_rfl) (fun _ _ _ h => h) (Or.inl ⟨by rfl, ?_⟩) hS0 ?_
      rotate_left
      · (intro W hSw; (try dsimp only at hSw); go_split_ands; go_simp; (try with_reducible rfl))
      (try go_simp)
      (try go_simp)
      refine wpAnyH_take (i := 6) (v := ?_) rfl (by kernel_rfl) (by kernel_rfl) (by kernel_rfl) (fun _ _ _ h => h) (Or.inl ⟨by rfl, ?_⟩) hS0 ?_
      rotate_left
      · (intro W hSw; (try dsimp only at hSw); go_split_ands; go_simp; (try with_reducible rfl))
      (try go_simp)
      (try go_simp)
      refine wpAnyH_take (i := 7) (v := ?_) rfl (by kernel_rfl) (by kernel_rfl) (by kernel_rfl) (fun _ _ _ h => h) (Or.inl ⟨by rfl, ?_⟩) hS0 ?_
      rotate_left
      · (intro W hSw; (try dsimp only at hSw); go_split_ands; go_simp; (try with_reducible rfl))
      (try go_simp)
      (try go_simp)
      refine wpAnyH_take (i := 8) (v := ?_) rfl (by kernel_rfl) (by kernel_rfl) (by kernel_rfl) (fun _ _ _ h => h) (Or.inl ⟨by rfl, ?_⟩) hS0 ?_
      rotate_left
      · (intro W hSw; (try dsimp only at hSw); go_split_ands; go_simp; (try with_reducible rfl))
      (try go_simp)
      (try go_simp)
      refine wpAnyH_take (i := 9) (v := ?_) rfl (by kernel_rfl) (by kernel_rfl) (by kernel_rfl) (fun _ _ _ h => h) (Or.inl ⟨by rfl, ?_⟩) hS0 ?_
      rotate_left
      · (intro W hSw; (try dsimp only at hSw); go_split_ands; go_simp; (try with_reducible rfl))
      (try go_simp)
      refine wpAnyH_ready (rs := [10, 11]) (by kernel_rfl) (by simp) ?_
      refine (AllReadyH.cons rfl (fun K hK => ?_) (AllReadyH.cons rfl (fun K hK => ?_) AllReadyH.nil))
      · go_simp
        refine hK.out _ _ (hAll.out _ (by repeat (first | (with_reducible assumption) | exact Below.refl _ _ | (with_reducible refine Below.alloc ?_ (by first | omega | (simp <;> omega)) _) | (with_reducible refine Below.setCell ?_ (by first | omega | (simp <;> omega)) _) | (with_reducible refine Below.drew ?_)))) (fun hS1 => ?_)
        clear hK K
        (try go_simp)
        refine wpAnyH_ready (rs := [11]) (by kernel_rfl) (by simp) ?_
        refine (AllReadyH.cons rfl (fun K hK => ?_) AllReadyH.nil)
        go_simp
        refine hK.out _ _ (hAll.out _ (by repeat (first | (with_reducible assumption) | exact Below.refl _ _ | (with_reducible refine Below.alloc ?_ (by first | omega | (simp <;> omega)) _) | (with_reducible refine Below.setCell ?_ (by first | omega | (simp <;> omega)) _) | (with_reducible refine Below.drew ?_)))) (fun hS2 => ?_)
        clear hK K
        (try go_simp)
        refine wpAnyH_ready (rs := [12]) (by kernel_rfl) (by simp) ?_
        refine (AllReadyH.cons rfl (fun K hK => ?_) AllReadyH.nil)
        go_simp
        refine hK.out _ _ (hAll.out _ (by repeat (first | (with_reducible assumption) | exact Below.refl _ _ | (with_reducible refine Below.alloc ?_ (by first | omega | (simp <;> omega)) _) | (with_reducible refine Below.setCell ?_ (by first | omega | (simp <;> omega)) _) | (with_reducible refine Below.drew ?_)))) (fun hS3 => ?_)
        clear hK K
        (try go_simp)
        refine wpAnyH_ready (rs := [13]) (by kernel_rfl) (by simp) ?_
        refine (AllReadyH.cons rfl (fun K hK => ?_) AllReadyH.nil)
        go_simp
        refine hK.out _ _ (hAll.out _ (by repeat (first | (with_reducible assumption) | exact Below.refl _ _ | (with_reducible refine Below.alloc ?_ (by first | omega | (simp <;> omega)) _) | (with_reducible refine Below.setCell ?_ (by first | omega | (simp <;> omega)) _) | (with_reducible refine Below.drew ?_)))) (fun hS4 => ?_)
        clear hK K
        (try go_simp)
        refine wpAnyH_done (by kernel_rfl) ?_ _
        (try go_simp)
        go_wp2_with fail
        go_meet
        exact ⟨_, _, rfl, rfl, by first | (simp; done) | (simp; omega), by first | (simp; done) | (simp; omega), by first | (simp; done) | (simp; omega), by first | (simp; done) | (simp; omega), by simp [go_sem], by simp [go_sem], by simp [go_sem], by simp [go_sem], (show Below _ _ _ from (by repeat (first | (with_reducible assumption) | exact Below.refl _ _ | (with_reducible refine Below.alloc ?_ (by first | omega | (simp <;> omega)) _) | (with_reducible refine Below.setCell ?_ (by first | omega | (simp <;> omega)) _) | (with_reducible refine Below.drew ?_))))⟩
      · go_simp
        refine hK.out _ _ (hAll.out _ (by repeat (first | (with_reducible assumption) | exact Below.refl _ _ | (with_reducible refine Below.alloc ?_ (by first | omega | (simp <;> omega)) _) | (with_reducible refine Below.setCell ?_ (by first | omega | (simp <;> omega)) _) | (with_reducible refine Below.drew ?_)))) (fun hS1 => ?_)
        clear hK K
        (try go_simp)
        refine wpAnyH_ready (rs := [10]) (by kernel_rfl) (by simp) ?_
        refine (AllReadyH.cons rfl (fun K hK => ?_) AllReadyH.nil)
        go_simp
        refine hK.out _ _ (hAll.out _ (by repeat (first | (with_reducible assumption) | exact Below.refl _ _ | (with_reducible refine Below.alloc ?_ (by first | omega | (simp <;> omega)) _) | (with_reducible refine Below.setCell ?_ (by first | omega | (simp <;> omega)) _) | (with_reducible refine Below.drew ?_)))) (fun hS2 => ?_)
        clear hK K
        (try go_simp)
        refine wpAnyH_ready (rs := [12]) (by kernel_rfl) (by simp) ?_
        refine (AllReadyH.cons rfl (fun K hK => ?_) AllReadyH.nil)
        go_simp
        refine hK.out _ _ (hAll.out _ (by repeat (first | (with_reducible assumption) | exact Below.refl _ _ | (with_reducible refine Below.alloc ?_ (by first | omega | (simp <;> omega)) _) | (with_reducible refine Below.setCell ?_ (by first | omega | (simp <;> omega)) _) | (with_reducible refine Below.drew ?_)))) (fun hS3 => ?_)
        clear hK K
        (try go_simp)
        refine wpAnyH_ready (rs := [13]) (by kernel_rfl) (by simp) ?_
        refine (AllReadyH.cons rfl (fun K hK => ?_) AllReadyH.nil)
        go_simp
        refine hK.out _ _ (hAll.out _ (by repeat (first | (with_reducible assumption) | exact Below.refl _ _ | (with_reducible refine Below.alloc ?_ (by first | omega | (simp <;> omega)) _) | (with_reducible refine Below.setCell ?_ (by first | omega | (simp <;> omega)) _) | (with_reducible refine Below.drew ?_)))) (fun hS4 => ?_)
        clear hK K
        (try go_simp)
        refine wpAnyH_done (by kernel_rfl) ?_ _
        (try go_simp)
        go_wp2_with fail
        go_meet
        exact ⟨_, _, rfl, rfl, by first | (simp; done) | (simp; omega), by first | (simp; done) | (simp; omega), by first | (simp; done) | (simp; omega), by first | (simp; done) | (simp; omega), by simp [go_sem], by simp [go_sem], by simp [go_sem], by simp [go_sem], (show Below _ _ _ from (by repeat (first | (with_reducible assumption) | exact Below.refl _ _ | (with_reducible refine Below.alloc ?_ (by first | omega | (simp <;> omega)) _) | (with_reducible refine Below.setCell ?_ (by first | omega | (simp <;> omega)) _) | (with_reducible refine Below.drew ?_))))⟩
    case rest =>
      obtain ⟨b7, b8, rfl, rfl, g7, l7, g8, l8, c70, c71, c80, c81, hT⟩ := hcut
      obtain ⟨wA, hWX⟩ : ∃ wX, wX = wc := ⟨_, rfl⟩
      subst hWX
      have hTs := hT.out.size
      have hBA : Below w.heap.size w wA := hB0.trans (hT.out.mono (by omega))
      replace q0 := (hT.out.cell hl0).trans q0
      replace q1 := (hT.out.cell hl0).trans q1
      replace q2 := (hT.out.cell hl0).trans q2
      replace q3 := (hT.out.cell hl0).trans q3
      replace q4 := (hT.out.cell hl0).trans q4
      replace q5 := (hT.out.cell hl0).trans q5
      replace q6 := (hT.out.cell hl0).trans q6
      replace q7 := (hT.out.cell hl0).trans q7
      replace q8 := (hT.out.cell hl0).trans q8
      replace q9 := (hT.out.cell hl0).trans q9
      replace s0 := (hT.out.cell hl1).trans s0
      replace s1 := (hT.out.cell hl1).trans s1
      replace s2 := (hT.out.cell hl1).trans s2
      replace s3 := (hT.out.cell hl1).trans s3
      go_wp2_with fail
      exact gives_t3 r x0 x1 x2 x3 lo A n cc gs w HX h0 hn hl (by omega) x y er ec Her Hxx Hyy wA (by omega) (by omega) hBA q0 q1 q2 q3 q4 q5 q6 q7 q8 q9 s0 s1 s2 s3 b7 b8 l7 l8 c70 c71 c80 c81

end Go.Proofs.Ytlkecgjpmnganaa
