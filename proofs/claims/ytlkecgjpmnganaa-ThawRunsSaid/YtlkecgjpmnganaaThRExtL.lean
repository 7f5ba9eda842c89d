/- Contracts: the reference's Extreme: its tables are filled. -/
import Derived.Test.YtlkecgjpmnganaaThRExtM
set_option linter.unusedSimpArgs false
set_option linter.unusedVariables false
namespace Go.Proofs.Ytlkecgjpmnganaa
open Go.RowKit Go.Shelf

noncomputable def rextTail3 : Code := dropC 3 (bodyC Try.f37)
set_option maxRecDepth 100000 in
set_option maxHeartbeats 4000000 in
theorem rext_t3 {z0 z1 z6 z7 z8 z11 z12 z13 z14 z15 z16 z17 z18 z19 z20 z21 z22 z23 z24 z25 z26 z27 z28 z29 z30 z31 z32 z33 z34 z35 z36 z37 z38 z39 z40 z41 z42 z43 z44 z45 z46 z47 z48 z49 z50 z51 z52 z53 z54 z55 z56 z57 z58 z59 z60 z61 z62 z63 z64 z65 z66 z67 z68 z69 z70 z71 z72 z73 z74 z75 z76 z77 z78 z79 z80 z81 z82 z83 z84 z85 z86 z87 z88 z89 z90 z91 z92 z93 z94 z95 z96 z97 z98 z99 z100 z101 z102 z103 z104 z105 z106 z107 z108 z109 z110 z111 z112 z113 z114 z115 z116 z117 z118 z119 z120 z121 z122 z123 z124 z125 z126 z127 z128 z129 z130 z131 z132 z133 z134 z135 z136 z137 z138 z139 z140 z141 z142 z143 z144 z145 z146 z147 z148 z149 z150 z151 z152 z153 z154 z155 z156 z157 z158 z159 z160 z161 z162 z163 z164 z165 z166 z167 z168 z169 z170 z171 z172 : Value} (r : TR) (hr : TROk r) (c i : Nat) (most : Bool) (lo : Nat) (A : Option Addr) (n cc : Nat) (ts : List R) (w : World) (HX : Aside (Ranges w lo A ts)) (hn : Aside (ts.length = n)) (hl : n ≤ 1000) (HW : Aside (∀ k, k < n → -600 ≤ (ts[k]?.getD R.d).lo ∧ (ts[k]?.getD R.d).lo ≤ (ts[k]?.getD R.d).hi ∧ (ts[k]?.getD R.d).hi ≤ 600)) (hst : Aside (stIn r ((c : Int), (i : Int)))) (b0 b1 L P : Nat) (o0 : w.heap.size ≤ b0) (o1 : b0 < b1) (o2 : b1 < L) (o3 : L < P) (wS : World) (hBA : Below w.heap.size w wS) (o4 : P < wS.heap.size) (q0 : wS.cell? ⟨b0, 0, none⟩ = some (.int .i64 r.frost)) (q1 : wS.cell? ⟨b0, 1, none⟩ = some (.int .i64 r.thaw)) (q2 : wS.cell? ⟨b0, 2, none⟩ = some (.int .i64 r.gain)) (q3 : wS.cell? ⟨b0, 3, none⟩ = some (.int .i64 r.full)) (q4 : wS.cell? ⟨b0, 4, none⟩ = some (.int .i64 r.ice)) (q5 : wS.cell? ⟨b0, 5, none⟩ = some (.int .i64 r.most)) (q6 : wS.cell? ⟨b0, 6, none⟩ = some (.int .i64 r.melt)) (q7 : wS.cell? ⟨b0, 7, none⟩ = some (.int .i64 r.rlow)) (q8 : wS.cell? ⟨b0, 8, none⟩ = some (.int .i64 r.rhigh)) (q9 : wS.cell? ⟨b0, 9, none⟩ = some (.int .i64 r.pull)) (s0 : wS.cell? ⟨b1, 0, none⟩ = some (.int .i64 (c : Int))) (s1 : wS.cell? ⟨b1, 1, none⟩ = some (.int .i64 (i : Int))) (v0 : wS.frozen? ⟨b1, 0, none⟩ = false) (v1 : wS.frozen? ⟨b1, 1, none⟩ = false) (HS1 : Aside (St1 r most ts n L P n wS)) :
    Code.wp Try.prog rextTail3 (bodyPost Try.prog Try.f37 (RExtPost w (extS r most ts ((c : Int), (i : Int))))) ⟨List.toArray (z0 :: z1 :: .slice A n cc :: .bool most :: .pointer (some ⟨b0, 0, none⟩) :: .pointer (some ⟨b1, 0, none⟩) :: z6 :: z7 :: z8 :: .slice (some ⟨L, 0, none⟩) (n + 1) (n + 1) :: .slice (some ⟨P, 0, none⟩) n n :: z11 :: z12 :: z13 :: z14 :: z15 :: z16 :: z17 :: z18 :: z19 :: z20 :: z21 :: z22 :: z23 :: z24 :: z25 :: z26 :: z27 :: z28 :: z29 :: z30 :: z31 :: z32 :: z33 :: z34 :: z35 :: z36 :: z37 :: z38 :: z39 :: z40 :: z41 :: z42 :: z43 :: z44 :: z45 :: z46 :: z47 :: z48 :: z49 :: z50 :: z51 :: z52 :: z53 :: z54 :: z55 :: z56 :: z57 :: z58 :: z59 :: z60 :: z61 :: z62 :: z63 :: z64 :: z65 :: z66 :: z67 :: z68 :: z69 :: z70 :: z71 :: z72 :: z73 :: z74 :: z75 :: z76 :: z77 :: z78 :: z79 :: z80 :: z81 :: z82 :: z83 :: z84 :: z85 :: z86 :: z87 :: z88 :: z89 :: z90 :: z91 :: z92 :: z93 :: z94 :: z95 :: z96 :: z97 :: z98 :: z99 :: z100 :: z101 :: z102 :: z103 :: z104 :: z105 :: z106 :: z107 :: z108 :: z109 :: z110 :: z111 :: z112 :: z113 :: z114 :: z115 :: z116 :: z117 :: z118 :: z119 :: z120 :: z121 :: z122 :: z123 :: z124 :: z125 :: z126 :: z127 :: z128 :: z129 :: z130 :: z131 :: z132 :: z133 :: z134 :: z135 :: z136 :: z137 :: z138 :: z139 :: z140 :: z141 :: z142 :: z143 :: z144 :: z145 :: z146 :: z147 :: z148 :: z149 :: z150 :: z151 :: z152 :: z153 :: z154 :: z155 :: z156 :: z157 :: z158 :: z159 :: z160 :: z161 :: z162 :: z163 :: z164 :: z165 :: z166 :: z167 :: z168 :: z169 :: z170 :: z171 :: z172 :: []), []⟩ wS := by
  have hR : rextTail4 = dropC 1 rextTail3 := (dropC_add 1 3 _).symm
  refine wp_tail 1 hR ?_
  conv => arg 2; simp only [rextTail3, bodyC, Try.f37, Option.getD_some, dropC, mkC]
  have hstp := fun c i k hk h0 W => refStep_any r c i k hk h0 hr W
  have hRV : rV r = .agg #[.int .i64 r.frost, .int .i64 r.thaw, .int .i64 r.gain, .int .i64 r.full, .int .i64 r.ice, .int .i64 r.most, .int .i64 r.melt, .int .i64 r.rlow, .int .i64 r.rhigh, .int .i64 r.pull] := rfl
  have hcn := fun tl th hok k hk W => refCan_any r hr tl th k hok hk W
  rw [hRV] at hstp hcn
  have hsz := hBA.size
  have u2 := hr.u2; have m2 := hr.m2; have u1 := hr.u1; have m1 := hr.m1
  have w0 : wrap64 ((n : Int) - 1) = (n : Int) - 1 := IntWalk.wrap64_in _ ⟨by omega, by omega⟩
  clear hRV
  go_wp2_with fail
  go_loopg [11] (n + 1) (fun gg ii wr => ∃ m : Nat, m ≤ n ∧ m ≤ gg ∧ ii = .int .i64 ((m : Int) - 1) ∧ Aside (Two L P wS wr) ∧ Aside (St1 r most ts n L P m wr))
  case atStart => exact ⟨n, Nat.le_refl _, by omega, rfl, Two.refl _ _ _, HS1.out⟩
  case round =>
    obtain ⟨m, hm, hg, rfl, hTw, hSt⟩ := hrel
    have hTS := hTw.out
    have hzS := hTS.size
    have hBw : Below w.heap.size w wr := hTS.below hBA hsz (by omega) (by omega)
    have a0 := hTS.cell q0 (by omega) (by omega)
    have a1 := hTS.cell q1 (by omega) (by omega)
    have a2 := hTS.cell q2 (by omega) (by omega)
    have a3 := hTS.cell q3 (by omega) (by omega)
    have a4 := hTS.cell q4 (by omega) (by omega)
    have a5 := hTS.cell q5 (by omega) (by omega)
    have a6 := hTS.cell q6 (by omega) (by omega)
    have a7 := hTS.cell q7 (by omega) (by omega)
    have a8 := hTS.cell q8 (by omega) (by omega)
    have a9 := hTS.cell q9 (by omega) (by omega)
    by_cases hm0 : m = 0
    · subst hm0
      have hneg : ¬ (0 : Int) ≤ ((0 : Nat) : Int) - 1 := by omega
      have hS1 := hSt.out
      have t0 := hTS.cell s0 (by omega) (by omega)
      have t1 := hTS.cell s1 (by omega) (by omega)
      have f0 := hTS.froz v0 (by omega) (by omega) (by omega)
      have f1 := hTS.froz v1 (by omega) (by omega) (by omega)
      go_wp2_with fail
      exact rext_t4 r hr c i most lo A n cc ts w HX hn hl HW hst b0 b1 L P o0 o1 o2 o3 wr hBw (by omega) a0 a1 a2 a3 a4 a5 a6 a7 a8 a9 t0 t1 f0 f1 (fun j hj => hS1.uq j (Nat.zero_le _) hj)
    · obtain ⟨idx, rfl⟩ : ∃ idx, m = idx + 1 := ⟨m - 1, by omega⟩
      have hidx : idx < n := by omega
      have e : (((idx + 1 : Nat) : Int) - 1) = (idx : Int) := by omega
      rw [e]
      clear e
      have hx0 : (0 : Int) ≤ (idx : Int) := Int.natCast_nonneg _
      have hxn : (idx : Int) < (n : Int) := by omega
      have hS2 := hSt.out.open2
      obtain ⟨bb, oo, hAA, _, hlb, hcs⟩ := HX.out (by have := hn.out; omega)
      subst hAA
      have e0 := (hBw.cell (p := ⟨bb, oo + idx * 2 + 0, none⟩) hlb).trans (hcs idx 0 (by have := hn.out; omega) (by omega))
      have e1 := (hBw.cell (p := ⟨bb, oo + idx * 2 + 1, none⟩) hlb).trans (hcs idx 1 (by have := hn.out; omega) (by omega))
      have hwk := HW.out idx hidx
      have hkd : ∀ s, kindAtS r most ts idx s = (bestS r most (ts[idx]?.getD R.d).lo (ts[idx]?.getD R.d).hi (restS r most (ts.drop (idx + 1))) s).1 := fun s => rfl
      have hrs : ∀ s, restS r most (ts.drop idx) s = (bestS r most (ts[idx]?.getD R.d).lo (ts[idx]?.getD R.d).hi (restS r most (ts.drop (idx + 1))) s).2 := fun s => by
        have hk2 : idx < ts.length := by have := hn.out; omega
        rw [List.drop_eq_getElem_cons hk2, List.getElem?_eq_getElem hk2]; rfl
      generalize ts[idx]?.getD R.d = t at e0 e1 hwk hkd hrs
      obtain ⟨tl, th⟩ := t
      simp only [R.cell, Nat.add_zero, if_true, Nat.one_ne_zero, if_false] at e0 e1 hwk hkd hrs
      have Hkd := Lib.hid hkd
      have Hrs := Lib.hid hrs
      have hlbr : bb < wr.heap.size := by have := hBw.size; omega
      have hbbL : bb < w.heap.size := hlb
      clear hkd hrs hcs
      obtain ⟨wR, hwR⟩ : ∃ X, X = wr := ⟨_, rfl⟩
      subst hwR
      go_upto_block 2 with fail
      obtain ⟨wX, hwX⟩ : ∃ X, X = wR.alloc (.cells #[.bool false, .bool false, .bool false, .bool false] 139) := ⟨_, rfl⟩
      have hbX : Below wR.heap.size wR wX := by rw [hwX]; exact (Below.refl _ _).alloc (Nat.le_refl _) _
      have hcbX : wR.heap.size < wX.heap.size := by rw [hwX]; simp
      have d0 : wX.cell? ⟨wR.heap.size, 0, none⟩ = some (.bool false) := by rw [hwX]; simp [go_sem]
      have g0 : wX.frozen? ⟨wR.heap.size, 0, none⟩ = false := by rw [hwX]; simp [go_sem]
      have d1 : wX.cell? ⟨wR.heap.size, 1, none⟩ = some (.bool false) := by rw [hwX]; simp [go_sem]
      have g1 : wX.frozen? ⟨wR.heap.size, 1, none⟩ = false := by rw [hwX]; simp [go_sem]
      have d2 : wX.cell? ⟨wR.heap.size, 2, none⟩ = some (.bool false) := by rw [hwX]; simp [go_sem]
      have g2 : wX.frozen? ⟨wR.heap.size, 2, none⟩ = false := by rw [hwX]; simp [go_sem]
      have d3 : wX.cell? ⟨wR.heap.size, 3, none⟩ = some (.bool false) := by rw [hwX]; simp [go_sem]
      have g3 : wX.frozen? ⟨wR.heap.size, 3, none⟩ = false := by rw [hwX]; simp [go_sem]
      rw [← hwX]
      clear hwX
      obtain ⟨cb, hcb⟩ : ∃ cb, cb = wR.heap.size := ⟨_, rfl⟩
      rw [← hcb] at d0 d1 d2 d3 g0 g1 g2 g3 hcbX ⊢
      have hcbP : P < cb := by omega
      have hcbS : wS.heap.size ≤ cb := by omega
      have hS2X := hS2.blk (hbX.block L (by omega)) (hbX.block P (by omega))
      have hTX := hTS.trans (Two.of_below hbX)
      have b0X := (hbX.cell (p := ⟨b0, 0, none⟩) (by show b0 < _; omega)).trans a0
      have b1X := (hbX.cell (p := ⟨b0, 1, none⟩) (by show b0 < _; omega)).trans a1
      have b2X := (hbX.cell (p := ⟨b0, 2, none⟩) (by show b0 < _; omega)).trans a2
      have b3X := (hbX.cell (p := ⟨b0, 3, none⟩) (by show b0 < _; omega)).trans a3
      have b4X := (hbX.cell (p := ⟨b0, 4, none⟩) (by show b0 < _; omega)).trans a4
      have b5X := (hbX.cell (p := ⟨b0, 5, none⟩) (by show b0 < _; omega)).trans a5
      have b6X := (hbX.cell (p := ⟨b0, 6, none⟩) (by show b0 < _; omega)).trans a6
      have b7X := (hbX.cell (p := ⟨b0, 7, none⟩) (by show b0 < _; omega)).trans a7
      have b8X := (hbX.cell (p := ⟨b0, 8, none⟩) (by show b0 < _; omega)).trans a8
      have b9X := (hbX.cell (p := ⟨b0, 9, none⟩) (by show b0 < _; omega)).trans a9
      have x0 := (hbX.cell (p := ⟨bb, oo + idx * 2, none⟩) hlbr).trans e0
      have x1 := (hbX.cell (p := ⟨bb, oo + idx * 2 + 1, none⟩) hlbr).trans e1
      have hok : okT ⟨tl, th⟩ = true := by simp [okT, btw]; omega
      have hcan1 := hcn tl th hok
      have hbbc : bb ≠ cb := by omega
      clear hcb e0 e1 a0 a1 a2 a3 a4 a5 a6 a7 a8 a9
      go_wp2_with fail
      go_loopg [13] (4) (fun gg c wr => ∃ k : Nat, 1 ≤ k ∧ k ≤ 4 ∧ 4 - k ≤ gg ∧ c = .int .i64 k ∧ Aside (wX.grownBy wr (some cb)) ∧ Aside (∀ j : Nat, j < 4 → wr.frozen? ⟨cb, j, none⟩ = false ∧ wr.cell? ⟨cb, j, none⟩ = some (.bool (decide (1 ≤ j) && decide (j < k) && canT r tl th j))))
      case atStart =>
        refine ⟨1, by omega, by omega, by omega, rfl, grown_refl _ _, fun j hj => ?_⟩
        have : j = 0 ∨ j = 1 ∨ j = 2 ∨ j = 3 := by omega
        rcases this with rfl | rfl | rfl | rfl
        · exact ⟨g0, d0⟩
        · exact ⟨g1, d1⟩
        · exact ⟨g2, d2⟩
        · exact ⟨g3, d3⟩
      case round =>
        obtain ⟨k, hk1, hk4, hgk, rfl, hgw, hcs⟩ := hrel
        clear d0 d1 d2 d3 g0 g1 g2 g3
        have hgz := hgw.out.size
        by_cases hlt : k ≤ 3
        · have hltz : (k : Int) ≤ 3 := by omega
          have hk0 : (0 : Int) ≤ (k : Int) := Int.natCast_nonneg _
          have hk6 : (k : Int) < 4 := by omega
          have k0 := gcell hgw.out b0X (by omega)
          have k1 := gcell hgw.out b1X (by omega)
          have k2 := gcell hgw.out b2X (by omega)
          have k3 := gcell hgw.out b3X (by omega)
          have k4 := gcell hgw.out b4X (by omega)
          have k5 := gcell hgw.out b5X (by omega)
          have k6 := gcell hgw.out b6X (by omega)
          have k7 := gcell hgw.out b7X (by omega)
          have k8 := gcell hgw.out b8X (by omega)
          have k9 := gcell hgw.out b9X (by omega)
          have y0 := gcell hgw.out x0 (by omega)
          have y1 := gcell hgw.out x1 (by omega)
          have hc1 := hcan1 k (by omega)
          obtain ⟨cv, hcv⟩ : ∃ cv, canT r tl th (k : Int) = cv := ⟨_, rfl⟩
          rw [hcv] at hc1
          have Hcv := Lib.hid hcv
          clear hcv
          obtain ⟨wA, hwA⟩ : ∃ X, X = wr := ⟨_, rfl⟩
          subst hwA
          have hAll : Aside (∀ W, wA.grownBy W (some cb) → (wA.grownBy W (some cb) ∧ W.cell? ⟨b0, 0, none⟩ = some (.int .i64 r.frost) ∧ W.cell? ⟨b0, 1, none⟩ = some (.int .i64 r.thaw) ∧ W.cell? ⟨b0, 2, none⟩ = some (.int .i64 r.gain) ∧ W.cell? ⟨b0, 3, none⟩ = some (.int .i64 r.full) ∧ W.cell? ⟨b0, 4, none⟩ = some (.int .i64 r.ice) ∧ W.cell? ⟨b0, 5, none⟩ = some (.int .i64 r.most) ∧ W.cell? ⟨b0, 6, none⟩ = some (.int .i64 r.melt) ∧ W.cell? ⟨b0, 7, none⟩ = some (.int .i64 r.rlow) ∧ W.cell? ⟨b0, 8, none⟩ = some (.int .i64 r.rhigh) ∧ W.cell? ⟨b0, 9, none⟩ = some (.int .i64 r.pull) ∧ W.cell? ⟨bb, oo + idx * 2, none⟩ = some (.int .i64 tl) ∧ W.cell? ⟨bb, oo + idx * 2 + 1, none⟩ = some (.int .i64 th))) := fun W h => ⟨h, gcell h k0 (by omega), gcell h k1 (by omega), gcell h k2 (by omega), gcell h k3 (by omega), gcell h k4 (by omega), gcell h k5 (by omega), gcell h k6 (by omega), gcell h k7 (by omega), gcell h k8 (by omega), gcell h k9 (by omega), gcell h y0 (by omega), gcell h y1 (by omega)⟩
          go_wp2_with fail
          refine wp_region_held_drew (S := fun W => wA.grownBy W (some cb) ∧ W.cell? ⟨b0, 0, none⟩ = some (.int .i64 r.frost) ∧ W.cell? ⟨b0, 1, none⟩ = some (.int .i64 r.thaw) ∧ W.cell? ⟨b0, 2, none⟩ = some (.int .i64 r.gain) ∧ W.cell? ⟨b0, 3, none⟩ = some (.int .i64 r.full) ∧ W.cell? ⟨b0, 4, none⟩ = some (.int .i64 r.ice) ∧ W.cell? ⟨b0, 5, none⟩ = some (.int .i64 r.most) ∧ W.cell? ⟨b0, 6, none⟩ = some (.int .i64 r.melt) ∧ W.cell? ⟨b0, 7, none⟩ = some (.int .i64 r.rlow) ∧ W.cell? ⟨b0, 8, none⟩ = some (.int .i64 r.rhigh) ∧ W.cell? ⟨b0, 9, none⟩ = some (.int .i64 r.pull) ∧ W.cell? ⟨bb, oo + idx * 2, none⟩ = some (.int .i64 tl) ∧ W.cell? ⟨bb, oo + idx * 2 + 1, none⟩ = some (.int .i64 th)) (by kernel_rfl) (hAll.out _ (grown_drew _ _)) (fun hS0 => ?_)
          (try go_simp)
          refine wpAnyH_take (i := 0) (v := ?_) rfl (by kernel_rfl) (by kernel_rfl) (by kernel_rfl) (fun _ _ _ h => h) (Or.inl ⟨by rfl, ?_⟩) hS0 ?_
          rotate_left
          · (intro W hSw; (try dsimp only at hSw); (try go_split_ands); go_simp; (try with_reducible rfl))
          (try go_simp)
          (try go_simp)
          refine wpAnyH_take (i := 1) (v := ?_) rfl (by kernel_rfl) (by kernel_rfl) (by kernel_rfl) (fun _ _ _ h => h) (Or.inl ⟨by rfl, ?_⟩) hS0 ?_
          rotate_left
          · (intro W hSw; (try dsimp only at hSw); (try go_split_ands); go_simp; (try with_reducible rfl))
          (try go_simp)
          (try go_simp)
          refine wpAnyH_take (i := 2) (v := ?_) rfl (by kernel_rfl) (by kernel_rfl) (by kernel_rfl) (fun _ _ _ h => h) (Or.inl ⟨by rfl, ?_⟩) hS0 ?_
          rotate_left
          · (intro W hSw; (try dsimp only at hSw); (try go_split_ands); go_simp; (try with_reducible rfl))
          (try go_simp)
          (try go_simp)
          refine wpAnyH_take (i := 3) (v := ?_) rfl (by kernel_rfl) (by kernel_rfl) (by kernel_rfl) (fun _ _ _ h => h) (Or.inl ⟨by rfl, ?_⟩) hS0 ?_
          rotate_left
          · (intro W hSw; (try dsimp only at hSw); (try go_split_ands); go_simp; (try with_reducible rfl))
          (try go_simp)
          (try go_simp)
          refine wpAnyH_take (i := 4) (v := ?_) rfl (by kernel_rfl) (by kernel_rfl) (by kernel_rfl) (fun _ _ _ h => h) (Or.inl ⟨by rfl, ?_⟩) hS0 ?_
          rotate_left
          · (intro W hSw; (try dsimp only at hSw); (try go_split_ands); go_simp; (try with_reducible rfl))
          (try go_simp)
          (try go_simp)
          refine wpAnyH_take (i := 5) (v := ?_) rfl (by kernel_rfl) (by kernel_rfl) (by kernel_rfl) (fun _ _ _ h => h) (Or.inl ⟨by rfl, ?_⟩) hS0 ?_
          rotate_left
          · (intro W hSw; (try dsimp only at hSw); (try go_split_ands); go_simp; (try with_reducible rfl))
          (try go_simp)
          (try go_simp)
          refine wpAnyH_take (i := 6) (v := ?_) rfl (by kernel_rfl) (by kernel_rfl) (by kernel_rfl) (fun _ _ _ h => h) (Or.inl ⟨by rfl, ?_⟩) hS0 ?_
          rotate_left
          · (intro W hSw; (try dsimp only at hSw); (try go_split_ands); go_simp; (try with_reducible rfl))
          (try go_simp)
          refine wpAnyH_ready (rs := [7]) (by kernel_rfl) (by simp) ?_
          refine (AllReadyH.cons rfl (fun K hK => ?_) AllReadyH.nil)
          go_simp
          go_wp2_with (go_at_call 23; refine (hc1 _).mono ?_; rintro e w3 ⟨rfl, hb3⟩; have g3 : wA.grownBy w3 (some cb) := grown_below (grown_drew wA _) hb3; have l0 := (hb3.cell (p := ⟨cb, k, none⟩) (by show cb < wA.heap.size; omega)).trans (show wA.drew.cell? ⟨cb, k, none⟩ = _ from (hcs.out k (by omega)).2); have v0 := (hb3.frozen (p := ⟨cb, k, none⟩) (by show cb < wA.heap.size; omega)).trans (show wA.drew.frozen? ⟨cb, k, none⟩ = _ from (hcs.out k (by omega)).1))
          refine hK.out _ _ (hAll.out _ g3) (fun hS1 => ?_)
          clear hK K
          (try go_simp)
          (try go_simp)
          refine wpAnyH_take (i := 8) (v := ?_) rfl (by kernel_rfl) (by kernel_rfl) (by kernel_rfl) (fun _ _ _ h => h) (Or.inl ⟨by rfl, ?_⟩) hS1 ?_
          rotate_left
          · (intro W hSw; (try dsimp only at hSw); (try go_split_ands); go_simp; (try with_reducible rfl))
          (try go_simp)
          refine wpAnyH_ready (rs := [9]) (by kernel_rfl) (by simp) ?_
          refine (AllReadyH.cons rfl (fun K hK => ?_) AllReadyH.nil)
          go_simp
          have g4 : wA.grownBy (w3.setCell ⟨cb, k, none⟩ (.bool cv)) (some cb) := grown_tr g3 (grown_set _ _ _ _) (fun r e => Or.inr (by cases e; rfl))
          refine hK.out _ _ (hAll.out _ g4) (fun hS2 => ?_)
          clear hK K
          (try go_simp)
          refine wpAnyH_done (by kernel_rfl) ?_ _
          (try go_simp)
          go_wp2
          go_roundg (4 - (k + 1))
          case measure => omega
          case rel =>
            refine ⟨k + 1, by omega, by omega, by omega, by go_num, grown_tr hgw.out g4 (fun r e => Or.inr (by cases e; rfl)), fun j hj => ?_⟩
            constructor
            · exact (World.frozen?_setCells cb [.bool cv] _ _ _).trans ((hb3.frozen (p := ⟨cb, j, none⟩) (by show cb < wA.heap.size; omega)).trans (show wA.drew.frozen? ⟨cb, j, none⟩ = _ from (hcs.out j hj).1))
            · rw [cell_set]
              by_cases e : k = j
              · subst e
                rw [if_pos ⟨rfl, rfl⟩, l0, Hcv.out]
                simp [hk1]
              · rw [if_neg (fun h => e h.2)]
                refine ((hb3.cell (p := ⟨cb, j, none⟩) (by show cb < wA.heap.size; omega)).trans (show wA.drew.cell? ⟨cb, j, none⟩ = _ from (hcs.out j hj).2)).trans ?_
                have : decide (j < k) = decide (j < k + 1) := by rw [decide_eq_decide]; omega
                rw [this]
        · have hltz : ¬ (k : Int) ≤ 3 := by omega
          obtain rfl : k = 4 := by omega
          have hcan : Aside (∀ q : Nat, 1 ≤ q → q ≤ 3 → wr.cell? ⟨cb, q, none⟩ = some (.bool (canT r tl th q))) := fun q h1 h3 => by
            refine (hcs.out q (by omega)).2.trans ?_
            have e1 : decide (1 ≤ q) = true := decide_eq_true h1
            have e2 : decide (q < 4) = true := decide_eq_true (by omega)
            rw [e1, e2]
            rfl
          obtain ⟨wK, hwK⟩ : ∃ X, X = wr := ⟨_, rfl⟩
          subst hwK
          have hTK : Two L P wS wK := ⟨hgw.out.os.trans hTX.os, hgw.out.tape.trans hTX.tape, hgw.out.output.trans hTX.output, Nat.le_trans hTX.size hgw.out.size, fun i h1 h2 h3 => (hgw.out.block i (Nat.lt_of_lt_of_le h1 hTX.size) (fun e => by cases e; omega)).trans (hTX.block i h1 h2 h3)⟩
          have hS2K := hS2X.blk (hgw.out.block L (by omega) (fun e => by cases e; omega)) (hgw.out.block P (by omega) (fun e => by cases e; omega))
          have n0 := gcell hgw.out b0X (by omega)
          have n1 := gcell hgw.out b1X (by omega)
          have n2 := gcell hgw.out b2X (by omega)
          have n3 := gcell hgw.out b3X (by omega)
          have n4 := gcell hgw.out b4X (by omega)
          have n5 := gcell hgw.out b5X (by omega)
          have n6 := gcell hgw.out b6X (by omega)
          have n7 := gcell hgw.out b7X (by omega)
          have n8 := gcell hgw.out b8X (by omega)
          have n9 := gcell hgw.out b9X (by omega)
          have wI : wrap64 ((idx : Int) - 1) = (idx : Int) - 1 := IntWalk.wrap64_in _ ⟨by omega, by omega⟩
          have hzK : P < wK.heap.size := by omega
          clear hcs x0 x1 hcan1 hgw b0X b1X b2X b3X b4X b5X b6X b7X b8X b9X
          go_wp2_with fail
          go_loopg [14] (62) (fun gg cc wr => ∃ k : Nat, (k : Int) ≤ r.full + 1 ∧ 62 - k ≤ gg ∧ cc = .int .i64 k ∧ Aside (Two L P wK wr) ∧ Aside (St2 r most ts n L P idx k 0 wr))
          case atStart => exact ⟨0, by omega, by omega, rfl, Two.refl _ _ _, hS2K⟩
          case round =>
            obtain ⟨k, hk, hgk, rfl, hTw, hSt⟩ := hrel
            have hzw := hTw.out.size
            have qf := hTw.out.cell n3 (by omega) (by omega)
            by_cases hlt : (k : Int) ≤ r.full
            · have hk0 : (0 : Int) ≤ (k : Int) := Int.natCast_nonneg _
              have hk6 : (k : Int) < 61 := by omega
              go_wp2_with fail
              go_loopg [15] (33) (fun gg cc wr => ∃ i' : Nat, (i' : Int) ≤ r.most + 1 ∧ 33 - i' ≤ gg ∧ cc = .int .i64 i' ∧ Aside (Two L P wK wr) ∧ Aside (St2 r most ts n L P idx k i' wr))
              case atStart => exact ⟨0, by omega, by omega, rfl, hTw, hSt⟩
              case round =>
                clear hTw hSt hzw qf
                obtain ⟨i', hi, hgi, rfl, hTw, hSt⟩ := hrel
                have hzw := hTw.out.size
                have qm := hTw.out.cell n5 (by omega) (by omega)
                by_cases hlti : (i' : Int) ≤ r.most
                · have hi0 : (0 : Int) ≤ (i' : Int) := Int.natCast_nonneg _
                  have hi6 : (i' : Int) < 31 := by omega
                  have hin : stIn r ((k : Int), (i' : Int)) := ⟨hk0, hlt, hi0, hlti⟩
                  go_wp2_with fail
                  go_loopg [16] (4) (fun gg qq wr => ∃ (q : Nat) (pv lv : Int), 1 ≤ q ∧ q ≤ 4 ∧ 4 - q ≤ gg ∧ qq = .int .i64 q ∧ Aside (Two L P wK wr) ∧ Aside ((pv, lv) = bestQ r most tl th (restS r most (ts.drop (idx + 1))) ((k : Int), (i' : Int)) q) ∧ Aside (St3 r most ts n L P idx k i' pv lv wr))
                  case atStart => exact ⟨1, 0, 0, by omega, by omega, by omega, rfl, hTw, by rw [bestQ_one]; rfl, hSt.out.start3 (by omega) (by omega)⟩
                  case round =>
                    clear hTw hSt hzw qm
                    obtain ⟨q, pv, lv, hq1, hq4, hgq, rfl, hTw, hPL, hSt⟩ := hrel
                    have hTr := hTw.out
                    have hS3 := hSt.out
                    have hq12 : 1 ≤ q ∧ q ≤ 4 := ⟨hq1, hq4⟩
                    have hzr := hTr.size
                    by_cases hq : q ≤ 3
                    · have hltq : (q : Int) ≤ 3 := by omega
                      have hq0 : (0 : Int) ≤ (q : Int) := Int.natCast_nonneg _
                      have hq5 : (q : Int) < 4 := by omega
                      have hcq := hTr.cell (hcan.out q hq1 hq) (by omega) (by omega)
                      have hsucc := bestQ_succ r most tl th (restS r most (ts.drop (idx + 1))) ((k : Int), (i' : Int)) q hq1 hq
                      cases hc : canT r tl th q with
                      | false =>
                        rw [hc] at hcq hsucc
                        rw [if_neg (by simp)] at hsucc
                        have Hs := Lib.hid hsucc
                        have HPL := Lib.hid hPL.out
                        clear hc hsucc
                        go_wp2
                        go_roundg (4 - (q + 1))
                        case measure => omega
                        case rel => exact ⟨q + 1, pv, lv, by omega, by omega, by omega, by go_num, hTr, by rw [Hs.out]; exact HPL.out, hS3⟩
                      | true =>
                        rw [hc] at hcq hsucc
                        rw [if_pos rfl, ← hPL.out] at hsucc
                        have a0 := hTr.cell n0 (by omega) (by omega)
                        have a1 := hTr.cell n1 (by omega) (by omega)
                        have a2 := hTr.cell n2 (by omega) (by omega)
                        have a3 := hTr.cell n3 (by omega) (by omega)
                        have a4 := hTr.cell n4 (by omega) (by omega)
                        have a5 := hTr.cell n5 (by omega) (by omega)
                        have a6 := hTr.cell n6 (by omega) (by omega)
                        have a7 := hTr.cell n7 (by omega) (by omega)
                        have a8 := hTr.cell n8 (by omega) (by omega)
                        have a9 := hTr.cell n9 (by omega) (by omega)
                        have hst1 := hstp k i' q ⟨by omega, by omega⟩ hin
                        have hsi := stepT_in hr hin (k := (q : Int))
                        have hbf : bestF r most (restS r most (ts.drop (idx + 1))) ((k : Int), (i' : Int)) (pv, lv) q = if pv = 0 ∨ betS most (restS r most (ts.drop (idx + 1)) (stepT r ((k : Int), (i' : Int)) q).1 + (if (stepT r ((k : Int), (i' : Int)) q).2 then 1 else 0)) lv = true then ((q : Int), restS r most (ts.drop (idx + 1)) (stepT r ((k : Int), (i' : Int)) q).1 + (if (stepT r ((k : Int), (i' : Int)) q).2 then 1 else 0)) else (pv, lv) := rfl
                        rw [hbf] at hsucc
                        rcases hsr : stepT r ((k : Int), (i' : Int)) q with ⟨⟨c2, i2⟩, ran⟩
                        rw [hsr] at hst1 hsi hsucc
                        obtain ⟨z1, z2, z3, z4⟩ := hsi
                        simp only at z1 z2 z3 z4 hsucc
                        obtain ⟨c2, rfl⟩ := Int.eq_ofNat_of_zero_le z1
                        obtain ⟨i2, rfl⟩ := Int.eq_ofNat_of_zero_le z3
                        simp only [sV] at hst1
                        have hcl : (c2 : Int) < 61 := by omega
                        have hil : (i2 : Int) < 31 := by omega
                        have hin2 : stIn r ((c2 : Int), (i2 : Int)) := ⟨z1, z2, z3, z4⟩
                        have hVb := restS_bd r most (ts.drop (idx + 1)) ((c2 : Int), (i2 : Int))
                        have hVl : (ts.drop (idx + 1)).length ≤ 1000 := by rw [List.length_drop]; have := hn.out; omega
                        have kV := hS3.up (idx + 1) (Nat.le_refl _) (by omega) c2 i2 hin2
                        generalize restS r most (ts.drop (idx + 1)) ((c2 : Int), (i2 : Int)) = V at hsucc hVb kV
                        clear hc hsr hbf
                        go_wp2_with fail
                        refine (hst1 _).mono ?_
                        rintro e w3 ⟨rfl, hb3⟩
                        have hr01 : 0 ≤ (if ran = true then 1 else 0 : Int) ∧ (if ran = true then 1 else 0 : Int) ≤ 1 := by split <;> omega
                        generalize (if ran = true then 1 else 0 : Int) = rho at hsucc hr01 ⊢
                        have Hbq := Lib.hid hsucc
                        clear hsucc
                        go_upto_region 22 with fail
                        obtain ⟨W4, hW4⟩ : ∃ W4, W4 = w3.alloc (.cells #[.int .i64 (c2 : Int), .int .i64 (i2 : Int)] 27) := ⟨_, rfl⟩
                        have s0 : W4.cell? ⟨w3.heap.size, 0, none⟩ = some (.int .i64 (c2 : Int)) := by rw [hW4]; simp [go_sem]
                        have s1 : W4.cell? ⟨w3.heap.size, 1, none⟩ = some (.int .i64 (i2 : Int)) := by rw [hW4]; simp [go_sem]
                        have hb4 : Below wr.heap.size wr W4 := by rw [hW4]; exact hb3.alloc hb3.size _
                        have hps : w3.heap.size < W4.heap.size := by rw [hW4]; simp
                        have hpn : P < w3.heap.size := by have := hb3.size; omega
                        rw [← hW4]
                        clear hW4
                        generalize w3.heap.size = p3 at s0 s1 hps hpn ⊢
                        replace hS3 := hS3.blk (hb4.block L (by omega)) (hb4.block P (by omega))
                        have kV4 := (hb4.cell (p := ⟨L, (idx + 1) * 1891 + c2 * 31 + i2, none⟩) (by show L < _; omega)).trans kV
                        have hT4 := hTr.trans (Two.of_below hb4)
                        have wv : IntKind.i64.wrap (V + rho) = V + rho := by rw [IntKind.wrap_i64]; omega
                        have wi : IntKind.i64.wrap ((idx : Int) + 1) = (idx : Int) + 1 := by rw [IntKind.wrap_i64]; omega
                        have hi1 : (idx : Int) + 1 < (n : Int) + 1 := by omega
                        have hi2 : (0 : Int) ≤ (idx : Int) + 1 := by omega
                        have hi3 : (idx : Int) < (n : Int) + 1 := by omega
                        clear kV hb3
                        go_quiet (fail)
                        generalize hqq : World.drewN W4 _ = wQ
                        have hbq := drawnT hqq
                        clear hqq
                        have hzq := hbq.size
                        have hS3Q := hS3.blk (hbq.block L (by omega)) (hbq.block P (by omega))
                        have hTQ := hT4.trans (Two.of_below hbq)
                        have kl := hS3Q.cl
                        have kp := hS3Q.cp
                        have fl := hS3Q.wl.2 (idx * 1891 + k * 31 + i')
                        have fp := hS3Q.wp.2 (idx * 1891 + k * 31 + i')
                        clear hS3 kV4 s0 s1
                        by_cases hp0 : pv = 0
                        · have hpb : (pv == 0) = true := by simp [hp0]
                          have hC : pv = 0 ∨ betS most (V + rho) lv = true := Or.inl hp0
                          go_wp2_with fail
                          refine wp_region_held_drew (S := fun _ => True) (by kernel_rfl) trivial (fun hS0 => ?_)
                          (try go_simp)
                          refine wpAnyH_take (i := 0) (v := ?_) rfl (by kernel_rfl) (by kernel_rfl) (by kernel_rfl) (fun _ _ _ h => h) (Or.inl ⟨by rfl, ?_⟩) hS0 ?_
                          rotate_left
                          · (intro W hSw; (try dsimp only at hSw); (try go_split_ands); go_simp; (try with_reducible rfl))
                          (try go_simp)
                          (try go_simp)
                          refine wpAnyH_take (i := 1) (v := ?_) rfl (by kernel_rfl) (by kernel_rfl) (by kernel_rfl) (fun _ _ _ h => h) (Or.inl ⟨by rfl, ?_⟩) hS0 ?_
                          rotate_left
                          · (intro W hSw; (try dsimp only at hSw); (try go_split_ands); go_simp; (try with_reducible rfl))
                          (try go_simp)
                          (try go_simp)
                          refine wpAnyH_take (i := 2) (v := ?_) rfl (by kernel_rfl) (by kernel_rfl) (by kernel_rfl) (fun _ _ _ h => h) (Or.inl ⟨by rfl, ?_⟩) hS0 ?_
                          rotate_left
                          · (intro W hSw; (try dsimp only at hSw); (try go_split_ands); go_simp; (try with_reducible rfl))
                          (try go_simp)
                          (try go_simp)
                          refine wpAnyH_take (i := 3) (v := ?_) rfl (by kernel_rfl) (by kernel_rfl) (by kernel_rfl) (fun _ _ _ h => h) (Or.inl ⟨by rfl, ?_⟩) hS0 ?_
                          rotate_left
                          · (intro W hSw; (try dsimp only at hSw); (try go_split_ands); go_simp; (try with_reducible rfl))
                          (try go_simp)
                          (try go_simp)
                          refine wpAnyH_take (i := 4) (v := ?_) rfl (by kernel_rfl) (by kernel_rfl) (by kernel_rfl) (fun _ _ _ h => h) (Or.inl ⟨by rfl, ?_⟩) hS0 ?_
                          rotate_left
                          · (intro W hSw; (try dsimp only at hSw); (try go_split_ands); go_simp; (try with_reducible rfl))
                          (try go_simp)
                          (try go_simp)
                          refine wpAnyH_take (i := 5) (v := ?_) rfl (by kernel_rfl) (by kernel_rfl) (by kernel_rfl) (fun _ _ _ h => h) (Or.inl ⟨by rfl, ?_⟩) hS0 ?_
                          rotate_left
                          · (intro W hSw; (try dsimp only at hSw); (try go_split_ands); go_simp; (try with_reducible rfl))
                          (try go_simp)
                          (try go_simp)
                          refine wpAnyH_take (i := 6) (v := ?_) rfl (by kernel_rfl) (by kernel_rfl) (by kernel_rfl) (fun _ _ _ h => h) (Or.inl ⟨by rfl, ?_⟩) hS0 ?_
                          rotate_left
                          · (intro W hSw; (try dsimp only at hSw); (try go_split_ands); go_simp; (try with_reducible rfl))
                          (try go_simp)
                          (try go_simp)
                          refine wpAnyH_take (i := 7) (v := ?_) rfl (by kernel_rfl) (by kernel_rfl) (by kernel_rfl) (fun _ _ _ h => h) (Or.inl ⟨by rfl, ?_⟩) hS0 ?_
                          rotate_left
                          · (intro W hSw; (try dsimp only at hSw); (try go_split_ands); go_simp; (try with_reducible rfl))
                          (try go_simp)
                          (try go_simp)
                          refine wpAnyH_take (i := 8) (v := ?_) rfl (by kernel_rfl) (by kernel_rfl) (by kernel_rfl) (fun _ _ _ h => h) (Or.inl ⟨by rfl, ?_⟩) hS0 ?_
                          rotate_left
                          · (intro W hSw; (try dsimp only at hSw); (try go_split_ands); go_simp; (try with_reducible rfl))
                          (try go_simp)
                          (try go_simp)
                          refine wpAnyH_take (i := 9) (v := ?_) rfl (by kernel_rfl) (by kernel_rfl) (by kernel_rfl) (fun _ _ _ h => h) (Or.inl ⟨by rfl, ?_⟩) hS0 ?_
                          rotate_left
                          · (intro W hSw; (try dsimp only at hSw); (try go_split_ands); go_simp; (try with_reducible rfl))
                          (try go_simp)
                          (try go_simp)
                          refine wpAnyH_take (i := 10) (v := ?_) rfl (by kernel_rfl) (by kernel_rfl) (by kernel_rfl) (fun _ _ _ h => h) (Or.inl ⟨by rfl, ?_⟩) hS0 ?_
                          rotate_left
                          · (intro W hSw; (try dsimp only at hSw); (try go_split_ands); go_simp; (try with_reducible rfl))
                          (try go_simp)
                          (try go_simp)
                          refine wpAnyH_take (i := 11) (v := ?_) rfl (by kernel_rfl) (by kernel_rfl) (by kernel_rfl) (fun _ _ _ h => h) (Or.inl ⟨by rfl, ?_⟩) hS0 ?_
                          rotate_left
                          · (intro W hSw; (try dsimp only at hSw); (try go_split_ands); go_simp; (try with_reducible rfl))
                          (try go_simp)
                          (try go_simp)
                          refine wpAnyH_take (i := 14) (v := ?_) rfl (by kernel_rfl) (by kernel_rfl) (by kernel_rfl) (fun _ _ _ h => h) (Or.inl ⟨by rfl, ?_⟩) hS0 ?_
                          rotate_left
                          · (intro W hSw; (try dsimp only at hSw); (try go_split_ands); go_simp; (try with_reducible rfl))
                          (try go_simp)
                          (try go_simp)
                          refine wpAnyH_take (i := 15) (v := ?_) rfl (by kernel_rfl) (by kernel_rfl) (by kernel_rfl) (fun _ _ _ h => h) (Or.inl ⟨by rfl, ?_⟩) hS0 ?_
                          rotate_left
                          · (intro W hSw; (try dsimp only at hSw); (try go_split_ands); go_simp; (try with_reducible rfl))
                          (try go_simp)
                          (try go_simp)
                          refine wpAnyH_take (i := 12) (v := ?_) rfl (by kernel_rfl) (by kernel_rfl) (by kernel_rfl) (fun _ _ _ h => h) (Or.inl ⟨by rfl, ?_⟩) hS0 ?_
                          rotate_left
                          · (intro W hSw; (try dsimp only at hSw); (try go_split_ands); go_simp; (try with_reducible rfl))
                          (try go_simp)
                          refine wpAnyH_ready (rs := [13]) (by kernel_rfl) (by simp) ?_
                          refine (AllReadyH.cons rfl (fun K hK => ?_) AllReadyH.nil)
                          go_simp
                          refine hK.out _ _ trivial (fun hS1 => ?_)
                          clear hK K
                          (try go_simp)
                          (try go_simp)
                          refine wpAnyH_take (i := 16) (v := ?_) rfl (by kernel_rfl) (by kernel_rfl) (by kernel_rfl) (fun _ _ _ h => h) (Or.inl ⟨by rfl, ?_⟩) hS1 ?_
                          rotate_left
                          · (intro W hSw; (try dsimp only at hSw); (try go_split_ands); go_simp; (try with_reducible rfl))
                          (try go_simp)
                          refine wpAnyH_ready (rs := [17]) (by kernel_rfl) (by simp) ?_
                          refine (AllReadyH.cons rfl (fun K hK => ?_) AllReadyH.nil)
                          go_simp
                          refine hK.out _ _ trivial (fun hS2 => ?_)
                          clear hK K
                          (try go_simp)
                          refine wpAnyH_done (by kernel_rfl) ?_ _
                          (try go_simp)
                          have hSet0 := hS3Q.set hr (by omega) (by omega) hidx (by omega) (q : Int) (V + rho)
                          have hTwo0 := hTQ.trans ((Two.of_grown (grown_set wQ P (idx * 1891 + k * 31 + i') (.int .i64 (q : Int))) (Or.inr rfl)).trans (Two.of_grown (grown_set _ L (idx * 1891 + k * 31 + i') (.int .i64 (V + rho))) (Or.inl rfl)))
                          have hSet := St3.blk (W' := ((wQ.setCell ⟨P, idx * 1891 + k * 31 + i', none⟩ (.int .i64 (q : Int))).setCell ⟨L, idx * 1891 + k * 31 + i', none⟩ (.int .i64 (V + rho))).drew) hSet0 rfl rfl
                          have hTwo := hTwo0.trans (Two.of_below ((Below.refl _ _).drew))
                          clear hSet0 hTwo0
                          go_wp2
                          go_roundg (4 - (q + 1))
                          case measure => omega
                          case rel => exact ⟨q + 1, q, V + rho, by omega, by omega, by omega, by go_num, hTwo, (Hbq.out.trans (if_pos hC)).symm, hSet⟩
                        · have hpb : (pv == 0) = false := by simp [hp0]
                          cases hbt : betS most (V + rho) lv with
                          | true =>
                            have hC : pv = 0 ∨ betS most (V + rho) lv = true := Or.inr hbt
                            have Hbt := Lib.hid hbt
                            cases most with
                            | true =>
                              have hlt2 : lv < V + rho := of_decide_eq_true hbt
                              have HC := Lib.hid hC
                              clear hbt hC
                              go_wp2_with fail
                              refine wp_region_held_drew (S := fun _ => True) (by kernel_rfl) trivial (fun hS0 => ?_)
                              (try go_simp)
                              refine wpAnyH_take (i := 0) (v := ?_) rfl (by kernel_rfl) (by kernel_rfl) (by kernel_rfl) (fun _ _ _ h => h) (Or.inl ⟨by rfl, ?_⟩) hS0 ?_
                              rotate_left
                              · (intro W hSw; (try dsimp only at hSw); (try go_split_ands); go_simp; (try with_reducible rfl))
                              (try go_simp)
                              (try go_simp)
                              refine wpAnyH_take (i := 1) (v := ?_) rfl (by kernel_rfl) (by kernel_rfl) (by kernel_rfl) (fun _ _ _ h => h) (Or.inl ⟨by rfl, ?_⟩) hS0 ?_
                              rotate_left
                              · (intro W hSw; (try dsimp only at hSw); (try go_split_ands); go_simp; (try with_reducible rfl))
                              (try go_simp)
                              (try go_simp)
                              refine wpAnyH_take (i := 2) (v := ?_) rfl (by kernel_rfl) (by kernel_rfl) (by kernel_rfl) (fun _ _ _ h => h) (Or.inl ⟨by rfl, ?_⟩) hS0 ?_
                              rotate_left
                              · (intro W hSw; (try dsimp only at hSw); (try go_split_ands); go_simp; (try with_reducible rfl))
                              (try go_simp)
                              (try go_simp)
                              refine wpAnyH_take (i := 3) (v := ?_) rfl (by kernel_rfl) (by kernel_rfl) (by kernel_rfl) (fun _ _ _ h => h) (Or.inl ⟨by rfl, ?_⟩) hS0 ?_
                              rotate_left
                              · (intro W hSw; (try dsimp only at hSw); (try go_split_ands); go_simp; (try with_reducible rfl))
                              (try go_simp)
                              (try go_simp)
                              refine wpAnyH_take (i := 4) (v := ?_) rfl (by kernel_rfl) (by kernel_rfl) (by kernel_rfl) (fun _ _ _ h => h) (Or.inl ⟨by rfl, ?_⟩) hS0 ?_
                              rotate_left
                              · (intro W hSw; (try dsimp only at hSw); (try go_split_ands); go_simp; (try with_reducible rfl))
                              (try go_simp)
                              (try go_simp)
                              refine wpAnyH_take (i := 5) (v := ?_) rfl (by kernel_rfl) (by kernel_rfl) (by kernel_rfl) (fun _ _ _ h => h) (Or.inl ⟨by rfl, ?_⟩) hS0 ?_
                              rotate_left
                              · (intro W hSw; (try dsimp only at hSw); (try go_split_ands); go_simp; (try with_reducible rfl))
                              (try go_simp)
                              (try go_simp)
                              refine wpAnyH_take (i := 6) (v := ?_) rfl (by kernel_rfl) (by kernel_rfl) (by kernel_rfl) (fun _ _ _ h => h) (Or.inl ⟨by rfl, ?_⟩) hS0 ?_
                              rotate_left
                              · (intro W hSw; (try dsimp only at hSw); (try go_split_ands); go_simp; (try with_reducible rfl))
                              (try go_simp)
                              (try go_simp)
                              refine wpAnyH_take (i := 7) (v := ?_) rfl (by kernel_rfl) (by kernel_rfl) (by kernel_rfl) (fun _ _ _ h => h) (Or.inl ⟨by rfl, ?_⟩) hS0 ?_
                              rotate_left
                              · (intro W hSw; (try dsimp only at hSw); (try go_split_ands); go_simp; (try with_reducible rfl))
                              (try go_simp)
                              (try go_simp)
                              refine wpAnyH_take (i := 8) (v := ?_) rfl (by kernel_rfl) (by kernel_rfl) (by kernel_rfl) (fun _ _ _ h => h) (Or.inl ⟨by rfl, ?_⟩) hS0 ?_
                              rotate_left
                              · (intro W hSw; (try dsimp only at hSw); (try go_split_ands); go_simp; (try with_reducible rfl))
                              (try go_simp)
                              (try go_simp)
                              refine wpAnyH_take (i := 9) (v := ?_) rfl (by kernel_rfl) (by kernel_rfl) (by kernel_rfl) (fun _ _ _ h => h) (Or.inl ⟨by rfl, ?_⟩) hS0 ?_
                              rotate_left
                              · (intro W hSw; (try dsimp only at hSw); (try go_split_ands); go_simp; (try with_reducible rfl))
                              (try go_simp)
                              (try go_simp)
                              refine wpAnyH_take (i := 10) (v := ?_) rfl (by kernel_rfl) (by kernel_rfl) (by kernel_rfl) (fun _ _ _ h => h) (Or.inl ⟨by rfl, ?_⟩) hS0 ?_
                              rotate_left
                              · (intro W hSw; (try dsimp only at hSw); (try go_split_ands); go_simp; (try with_reducible rfl))
                              (try go_simp)
                              (try go_simp)
                              refine wpAnyH_take (i := 11) (v := ?_) rfl (by kernel_rfl) (by kernel_rfl) (by kernel_rfl) (fun _ _ _ h => h) (Or.inl ⟨by rfl, ?_⟩) hS0 ?_
                              rotate_left
                              · (intro W hSw; (try dsimp only at hSw); (try go_split_ands); go_simp; (try with_reducible rfl))
                              (try go_simp)
                              (try go_simp)
                              refine wpAnyH_take (i := 14) (v := ?_) rfl (by kernel_rfl) (by kernel_rfl) (by kernel_rfl) (fun _ _ _ h => h) (Or.inl ⟨by rfl, ?_⟩) hS0 ?_
                              rotate_left
                              · (intro W hSw; (try dsimp only at hSw); (try go_split_ands); go_simp; (try with_reducible rfl))
                              (try go_simp)
                              (try go_simp)
                              refine wpAnyH_take (i := 15) (v := ?_) rfl (by kernel_rfl) (by kernel_rfl) (by kernel_rfl) (fun _ _ _ h => h) (Or.inl ⟨by rfl, ?_⟩) hS0 ?_
                              rotate_left
                              · (intro W hSw; (try dsimp only at hSw); (try go_split_ands); go_simp; (try with_reducible rfl))
                              (try go_simp)
                              (try go_simp)
                              refine wpAnyH_take (i := 12) (v := ?_) rfl (by kernel_rfl) (by kernel_rfl) (by kernel_rfl) (fun _ _ _ h => h) (Or.inl ⟨by rfl, ?_⟩) hS0 ?_
                              rotate_left
                              · (intro W hSw; (try dsimp only at hSw); (try go_split_ands); go_simp; (try with_reducible rfl))
                              (try go_simp)
                              refine wpAnyH_ready (rs := [13]) (by kernel_rfl) (by simp) ?_
                              refine (AllReadyH.cons rfl (fun K hK => ?_) AllReadyH.nil)
                              go_simp
                              refine hK.out _ _ trivial (fun hS1 => ?_)
                              clear hK K
                              (try go_simp)
                              (try go_simp)
                              refine wpAnyH_take (i := 16) (v := ?_) rfl (by kernel_rfl) (by kernel_rfl) (by kernel_rfl) (fun _ _ _ h => h) (Or.inl ⟨by rfl, ?_⟩) hS1 ?_
                              rotate_left
                              · (intro W hSw; (try dsimp only at hSw); (try go_split_ands); go_simp; (try with_reducible rfl))
                              (try go_simp)
                              refine wpAnyH_ready (rs := [17]) (by kernel_rfl) (by simp) ?_
                              refine (AllReadyH.cons rfl (fun K hK => ?_) AllReadyH.nil)
                              go_simp
                              refine hK.out _ _ trivial (fun hS2 => ?_)
                              clear hK K
                              (try go_simp)
                              refine wpAnyH_done (by kernel_rfl) ?_ _
                              (try go_simp)
                              have hSet0 := hS3Q.set hr (by omega) (by omega) hidx (by omega) (q : Int) (V + rho)
                              have hTwo0 := hTQ.trans ((Two.of_grown (grown_set wQ P (idx * 1891 + k * 31 + i') (.int .i64 (q : Int))) (Or.inr rfl)).trans (Two.of_grown (grown_set _ L (idx * 1891 + k * 31 + i') (.int .i64 (V + rho))) (Or.inl rfl)))
                              have hSet := St3.blk (W' := ((wQ.setCell ⟨P, idx * 1891 + k * 31 + i', none⟩ (.int .i64 (q : Int))).setCell ⟨L, idx * 1891 + k * 31 + i', none⟩ (.int .i64 (V + rho))).drew) hSet0 rfl rfl
                              have hTwo := hTwo0.trans (Two.of_below ((Below.refl _ _).drew))
                              clear hSet0 hTwo0
                              go_wp2
                              go_roundg (4 - (q + 1))
                              case measure => omega
                              case rel => exact ⟨q + 1, q, V + rho, by omega, by omega, by omega, by go_num, hTwo, (Hbq.out.trans (if_pos HC.out)).symm, hSet⟩
                            | false =>
                              have hlt2 : V + rho < lv := of_decide_eq_true hbt
                              have HC := Lib.hid hC
                              clear hbt hC
                              go_wp2_with fail
                              refine wp_region_held_drew (S := fun _ => True) (by kernel_rfl) trivial (fun hS0 => ?_)
                              (try go_simp)
                              refine wpAnyH_take (i := 0) (v := ?_) rfl (by kernel_rfl) (by kernel_rfl) (by kernel_rfl) (fun _ _ _ h => h) (Or.inl ⟨by rfl, ?_⟩) hS0 ?_
                              rotate_left
                              · (intro W hSw; (try dsimp only at hSw); (try go_split_ands); go_simp; (try with_reducible rfl))
                              (try go_simp)
                              (try go_simp)
                              refine wpAnyH_take (i := 1) (v := ?_) rfl (by kernel_rfl) (by kernel_rfl) (by kernel_rfl) (fun _ _ _ h => h) (Or.inl ⟨by rfl, ?_⟩) hS0 ?_
                              rotate_left
                              · (intro W hSw; (try dsimp only at hSw); (try go_split_ands); go_simp; (try with_reducible rfl))
                              (try go_simp)
                              (try go_simp)
                              refine wpAnyH_take (i := 2) (v := ?_) rfl (by kernel_rfl) (by kernel_rfl) (by kernel_rfl) (fun _ _ _ h => h) (Or.inl ⟨by rfl, ?_⟩) hS0 ?_
                              rotate_left
                              · (intro W hSw; (try dsimp only at hSw); (try go_split_ands); go_simp; (try with_reducible rfl))
                              (try go_simp)
                              (try go_simp)
                              refine wpAnyH_take (i := 3) (v := ?_) rfl (by kernel_rfl) (by kernel_rfl) (by kernel_rfl) (fun _ _ _ h => h) (Or.inl ⟨by rfl, ?_⟩) hS0 ?_
                              rotate_left
                              · (intro W hSw; (try dsimp only at hSw); (try go_split_ands); go_simp; (try with_reducible rfl))
                              (try go_simp)
                              (try go_simp)
                              refine wpAnyH_take (i := 4) (v := ?_) rfl (by kernel_rfl) (by kernel_rfl) (by kernel_rfl) (fun _ _ _ h => h) (Or.inl ⟨by rfl, ?_⟩) hS0 ?_
                              rotate_left
                              · (intro W hSw; (try dsimp only at hSw); (try go_split_ands); go_simp; (try with_reducible rfl))
                              (try go_simp)
                              (try go_simp)
                              refine wpAnyH_take (i := 5) (v := ?_) rfl (by kernel_rfl) (by kernel_rfl) (by kernel_rfl) (fun _ _ _ h => h) (Or.inl ⟨by rfl, ?_⟩) hS0 ?_
                              rotate_left
                              · (intro W hSw; (try dsimp only at hSw); (try go_split_ands); go_simp; (try with_reducible rfl))
                              (try go_simp)
                              (try go_simp)
                              refine wpAnyH_take (i := 6) (v := ?_) rfl (by kernel_rfl) (by kernel_rfl) (by kernel_rfl) (fun _ _ _ h => h) (Or.inl ⟨by rfl, ?_⟩) hS0 ?_
                              rotate_left
                              · (intro W hSw; (try dsimp only at hSw); (try go_split_ands); go_simp; (try with_reducible rfl))
                              (try go_simp)
                              (try go_simp)
                              refine wpAnyH_take (i := 7) (v := ?_) rfl (by kernel_rfl) (by kernel_rfl) (by kernel_rfl) (fun _ _ _ h => h) (Or.inl ⟨by rfl, ?_⟩) hS0 ?_
                              rotate_left
                              · (intro W hSw; (try dsimp only at hSw); (try go_split_ands); go_simp; (try with_reducible rfl))
                              (try go_simp)
                              (try go_simp)
                              refine wpAnyH_take (i := 8) (v := ?_) rfl (by kernel_rfl) (by kernel_rfl) (by kernel_rfl) (fun _ _ _ h => h) (Or.inl ⟨by rfl, ?_⟩) hS0 ?_
                              rotate_left
                              · (intro W hSw; (try dsimp only at hSw); (try go_split_ands); go_simp; (try with_reducible rfl))
                              (try go_simp)
                              (try go_simp)
                              refine wpAnyH_take (i := 9) (v := ?_) rfl (by kernel_rfl) (by kernel_rfl) (by kernel_rfl) (fun _ _ _ h => h) (Or.inl ⟨by rfl, ?_⟩) hS0 ?_
                              rotate_left
                              · (intro W hSw; (try dsimp only at hSw); (try go_split_ands); go_simp; (try with_reducible rfl))
                              (try go_simp)
                              (try go_simp)
                              refine wpAnyH_take (i := 10) (v := ?_) rfl (by kernel_rfl) (by kernel_rfl) (by kernel_rfl) (fun _ _ _ h => h) (Or.inl ⟨by rfl, ?_⟩) hS0 ?_
                              rotate_left
                              · (intro W hSw; (try dsimp only at hSw); (try go_split_ands); go_simp; (try with_reducible rfl))
                              (try go_simp)
                              (try go_simp)
                              refine wpAnyH_take (i := 11) (v := ?_) rfl (by kernel_rfl) (by kernel_rfl) (by kernel_rfl) (fun _ _ _ h => h) (Or.inl ⟨by rfl, ?_⟩) hS0 ?_
                              rotate_left
                              · (intro W hSw; (try dsimp only at hSw); (try go_split_ands); go_simp; (try with_reducible rfl))
                              (try go_simp)
                              (try go_simp)
                              refine wpAnyH_take (i := 14) (v := ?_) rfl (by kernel_rfl) (by kernel_rfl) (by kernel_rfl) (fun _ _ _ h => h) (Or.inl ⟨by rfl, ?_⟩) hS0 ?_
                              rotate_left
                              · (intro W hSw; (try dsimp only at hSw); (try go_split_ands); go_simp; (try with_reducible rfl))
                              (try go_simp)
                              (try go_simp)
                              refine wpAnyH_take (i := 15) (v := ?_) rfl (by kernel_rfl) (by kernel_rfl) (by kernel_rfl) (fun _ _ _ h => h) (Or.inl ⟨by rfl, ?_⟩) hS0 ?_
                              rotate_left
                              · (intro W hSw; (try dsimp only at hSw); (try go_split_ands); go_simp; (try with_reducible rfl))
                              (try go_simp)
                              (try go_simp)
                              refine wpAnyH_take (i := 12) (v := ?_) rfl (by kernel_rfl) (by kernel_rfl) (by kernel_rfl) (fun _ _ _ h => h) (Or.inl ⟨by rfl, ?_⟩) hS0 ?_
                              rotate_left
                              · (intro W hSw; (try dsimp only at hSw); (try go_split_ands); go_simp; (try with_reducible rfl))
                              (try go_simp)
                              refine wpAnyH_ready (rs := [13]) (by kernel_rfl) (by simp) ?_
                              refine (AllReadyH.cons rfl (fun K hK => ?_) AllReadyH.nil)
                              go_simp
                              refine hK.out _ _ trivial (fun hS1 => ?_)
                              clear hK K
                              (try go_simp)
                              (try go_simp)
                              refine wpAnyH_take (i := 16) (v := ?_) rfl (by kernel_rfl) (by kernel_rfl) (by kernel_rfl) (fun _ _ _ h => h) (Or.inl ⟨by rfl, ?_⟩) hS1 ?_
                              rotate_left
                              · (intro W hSw; (try dsimp only at hSw); (try go_split_ands); go_simp; (try with_reducible rfl))
                              (try go_simp)
                              refine wpAnyH_ready (rs := [17]) (by kernel_rfl) (by simp) ?_
                              refine (AllReadyH.cons rfl (fun K hK => ?_) AllReadyH.nil)
                              go_simp
                              refine hK.out _ _ trivial (fun hS2 => ?_)
                              clear hK K
                              (try go_simp)
                              refine wpAnyH_done (by kernel_rfl) ?_ _
                              (try go_simp)
                              have hSet0 := hS3Q.set hr (by omega) (by omega) hidx (by omega) (q : Int) (V + rho)
                              have hTwo0 := hTQ.trans ((Two.of_grown (grown_set wQ P (idx * 1891 + k * 31 + i') (.int .i64 (q : Int))) (Or.inr rfl)).trans (Two.of_grown (grown_set _ L (idx * 1891 + k * 31 + i') (.int .i64 (V + rho))) (Or.inl rfl)))
                              have hSet := St3.blk (W' := ((wQ.setCell ⟨P, idx * 1891 + k * 31 + i', none⟩ (.int .i64 (q : Int))).setCell ⟨L, idx * 1891 + k * 31 + i', none⟩ (.int .i64 (V + rho))).drew) hSet0 rfl rfl
                              have hTwo := hTwo0.trans (Two.of_below ((Below.refl _ _).drew))
                              clear hSet0 hTwo0
                              go_wp2
                              go_roundg (4 - (q + 1))
                              case measure => omega
                              case rel => exact ⟨q + 1, q, V + rho, by omega, by omega, by omega, by go_num, hTwo, (Hbq.out.trans (if_pos HC.out)).symm, hSet⟩
                          | false =>
                            have hC : ¬ (pv = 0 ∨ betS most (V + rho) lv = true) := fun h => h.elim hp0 (fun h2 => by rw [hbt] at h2; cases h2)
                            cases most with
                            | true =>
                              have hlt2 : ¬ lv < V + rho := of_decide_eq_false hbt
                              have HC := Lib.hid hC
                              clear hbt hC
                              have hbq2 := Lib.hid ((Hbq.out.trans (if_neg HC.out)).symm)
                              go_wp2
                              go_roundg (4 - (q + 1))
                              case measure => omega
                              case rel => exact ⟨q + 1, pv, lv, by omega, by omega, by omega, by go_num, hTQ, hbq2.out, hS3Q⟩
                            | false =>
                              have hlt2 : ¬ V + rho < lv := of_decide_eq_false hbt
                              have HC := Lib.hid hC
                              clear hbt hC
                              have hbq2 := Lib.hid ((Hbq.out.trans (if_neg HC.out)).symm)
                              go_wp2
                              go_roundg (4 - (q + 1))
                              case measure => omega
                              case rel => exact ⟨q + 1, pv, lv, by omega, by omega, by omega, by go_num, hTQ, hbq2.out, hS3Q⟩
                    · have hltq : ¬ (q : Int) ≤ 3 := by omega
                      obtain rfl : q = 4 := by omega
                      have hb4' := hPL.out
                      rw [bestQ_four] at hb4'
                      obtain ⟨hp, hl⟩ := Prod.mk.inj (hb4'.trans (Prod.eta _).symm)
                      have Hp := Lib.hid hp
                      have Hl := Lib.hid hl
                      clear hp hl hb4'
                      go_wp2
                      go_roundg (33 - (i' + 1))
                      case measure => omega
                      case rel => exact ⟨i' + 1, by omega, by omega, by go_num, hTr, hS3.stop3 (by rw [Hkd.out]; exact Hp.out) (by rw [Hrs.out]; exact Hl.out)⟩
                · have hltz : ¬ (i' : Int) ≤ r.most := hlti
                  go_wp2
                  go_roundg (62 - (k + 1))
                  case measure => omega
                  case rel => exact ⟨k + 1, by omega, by omega, by go_num, hTw, hSt.out.row hr (by omega) (by omega)⟩
            · have hltz : ¬ (k : Int) ≤ r.full := hlt
              have hTS2 := hTK.trans hTw.out
              go_wp2
              go_roundg idx
              case measure => omega
              case rel => exact ⟨idx, by omega, Nat.le_refl _, rfl, hTS2, hSt.out.shut2 (by omega)⟩


end Go.Proofs.Ytlkecgjpmnganaa
