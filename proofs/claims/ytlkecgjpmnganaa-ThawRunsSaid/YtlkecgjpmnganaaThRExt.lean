/- Contracts: the reference's Extreme. -/
import Derived.Test.YtlkecgjpmnganaaThEnds
import Derived.Test.YtlkecgjpmnganaaThTab4
import Derived.Deep.CutRange
set_option linter.unusedSimpArgs false
set_option linter.unusedVariables false
namespace Go.Proofs.Ytlkecgjpmnganaa
open Go.RowKit Go.Shelf

/-- worlds that differ in two blocks -/
structure Two (L P : Nat) (A B : World) : Prop where
  os : B.os = A.os
  tape : B.tape = A.tape
  output : B.output = A.output
  size : A.heap.size ≤ B.heap.size
  block : ∀ k, k < A.heap.size → k ≠ L → k ≠ P → B.heap[k]? = A.heap[k]?
theorem Two.refl (L P : Nat) (A : World) : Two L P A A := ⟨rfl, rfl, rfl, Nat.le_refl _, fun _ _ _ _ => rfl⟩
theorem Two.trans {L P : Nat} {A B C : World} (h : Two L P A B) (k : Two L P B C) : Two L P A C :=
  ⟨k.os.trans h.os, k.tape.trans h.tape, k.output.trans h.output, Nat.le_trans h.size k.size, fun i h1 h2 h3 => (k.block i (Nat.lt_of_lt_of_le h1 h.size) h2 h3).trans (h.block i h1 h2 h3)⟩
theorem Two.of_below {L P : Nat} {A B : World} (h : Below A.heap.size A B) : Two L P A B := ⟨h.os, h.tape, h.output, h.size, fun i h1 _ _ => h.block i h1⟩
theorem Two.of_grown {L P : Nat} {A B : World} {b : Nat} (h : A.grownBy B (some b)) (hb : b = L ∨ b = P) : Two L P A B :=
  ⟨h.os, h.tape, h.output, h.size, fun i h1 h2 h3 => h.block i h1 (fun e => by cases e; rcases hb with rfl | rfl <;> contradiction)⟩
theorem Two.below {L P n : Nat} {X A B : World} (h : Two L P A B) (hX : Below n X A) (hn : n ≤ A.heap.size) (hL : n ≤ L) (hP : n ≤ P) : Below n X B :=
  hX.trans ⟨h.os, h.tape, h.output, h.size, fun i hi => h.block i (by omega) (by omega) (by omega)⟩
theorem Two.cell {L P : Nat} {A B : World} (h : Two L P A B) {b o : Nat} {v : Value} (hc : A.cell? ⟨b, o, none⟩ = some v) (h1 : b ≠ L) (h2 : b ≠ P) : B.cell? ⟨b, o, none⟩ = some v := by
  obtain ⟨x, hx, _⟩ := cells_of_cell hc
  exact (World.cell?_of_block (h.block b (Array.getElem?_eq_some_iff.1 hx).1 h1 h2)).trans hc
theorem Two.froz {L P : Nat} {A B : World} (h : Two L P A B) {b o : Nat} {v : Bool} (hc : A.frozen? ⟨b, o, none⟩ = v) (hl : b < A.heap.size) (h1 : b ≠ L) (h2 : b ≠ P) : B.frozen? ⟨b, o, none⟩ = v :=
  (World.frozen?_of_block (a := ⟨b, o, none⟩) (h.block b hl h1 h2)).trans hc

/-- the kind that is picked -/
def kindAtS (r : TR) (most : Bool) (ts : List R) (j : Nat) (s : St) : Int := (bestS r most (ts[j]?.getD R.d).lo (ts[j]?.getD R.d).hi (restS r most (ts.drop (j + 1))) s).1
/-- a table of numbers, for the states within the rules -/
def NTab (r : TR) (W : World) (b o : Nat) (V : St → Int) : Prop := ∀ c i : Nat, stIn r ((c : Int), (i : Int)) → W.cell? ⟨b, o + c * 31 + i, none⟩ = some (.int .i64 (V ((c : Int), (i : Int))))
theorem extS_drop (r : TR) (most : Bool) (ts : List R) (k : Nat) (hk : k < ts.length) (s : St) : extS r most (ts.drop k) s = kindAtS r most ts k s :: extS r most (ts.drop (k + 1)) (stepT r s (kindAtS r most ts k s)).1 := by
  rw [List.drop_eq_getElem_cons hk]
  unfold kindAtS
  rw [List.getElem?_eq_getElem hk]
  rfl

/-- behind the reference's Extreme -/
def RExtPost (w : World) (xs : List Int) (e : Ending) (w' : World) : Prop := ∃ A n c, e = .returned (.slice A n c) ∧ xs.length = n ∧ n ≤ c ∧ c ≤ maxLen ∧ (A = none → n = 0 ∧ c = 0) ∧ Ints w' w.heap.size A xs ∧ Below w.heap.size w w'

noncomputable def rextTail4 : Code := dropC 4 (bodyC Try.f37)
set_option maxRecDepth 100000 in
set_option maxHeartbeats 4000000 in
theorem rext_t4 {z0 z1 z6 z7 z8 z11 z12 z13 z14 z15 z16 z17 z18 z19 z20 z21 z22 z23 z24 z25 z26 z27 z28 z29 z30 z31 z32 z33 z34 z35 z36 z37 z38 z39 z40 z41 z42 z43 z44 z45 z46 z47 z48 z49 z50 z51 z52 z53 z54 z55 z56 z57 z58 z59 z60 z61 z62 z63 z64 z65 z66 z67 z68 z69 z70 z71 z72 z73 z74 z75 z76 z77 z78 z79 z80 z81 z82 z83 z84 z85 z86 z87 z88 z89 z90 z91 z92 z93 z94 z95 z96 z97 z98 z99 z100 z101 z102 z103 z104 z105 z106 z107 z108 z109 z110 z111 z112 z113 z114 z115 z116 z117 z118 z119 z120 z121 z122 z123 z124 z125 z126 z127 z128 z129 z130 z131 z132 z133 z134 z135 z136 z137 z138 z139 z140 z141 z142 z143 z144 z145 z146 z147 z148 z149 z150 z151 z152 z153 z154 z155 z156 z157 z158 z159 z160 z161 z162 z163 z164 z165 z166 z167 z168 z169 z170 z171 z172 : Value} (r : TR) (hr : TROk r) (c i : Nat) (most : Bool) (lo : Nat) (A : Option Addr) (n cc : Nat) (ts : List R) (w : World) (HX : Aside (Ranges w lo A ts)) (hn : Aside (ts.length = n)) (hl : n ≤ 1000) (HW : Aside (∀ k, k < n → -600 ≤ (ts[k]?.getD R.d).lo ∧ (ts[k]?.getD R.d).lo ≤ (ts[k]?.getD R.d).hi ∧ (ts[k]?.getD R.d).hi ≤ 600)) (hst : Aside (stIn r ((c : Int), (i : Int)))) (b0 b1 L P : Nat) (o0 : w.heap.size ≤ b0) (o1 : b0 < b1) (o2 : b1 < L) (o3 : L < P) (wT : World) (hBA : Below w.heap.size w wT) (o4 : P < wT.heap.size) (q0 : wT.cell? ⟨b0, 0, none⟩ = some (.int .i64 r.frost)) (q1 : wT.cell? ⟨b0, 1, none⟩ = some (.int .i64 r.thaw)) (q2 : wT.cell? ⟨b0, 2, none⟩ = some (.int .i64 r.gain)) (q3 : wT.cell? ⟨b0, 3, none⟩ = some (.int .i64 r.full)) (q4 : wT.cell? ⟨b0, 4, none⟩ = some (.int .i64 r.ice)) (q5 : wT.cell? ⟨b0, 5, none⟩ = some (.int .i64 r.most)) (q6 : wT.cell? ⟨b0, 6, none⟩ = some (.int .i64 r.melt)) (q7 : wT.cell? ⟨b0, 7, none⟩ = some (.int .i64 r.rlow)) (q8 : wT.cell? ⟨b0, 8, none⟩ = some (.int .i64 r.rhigh)) (q9 : wT.cell? ⟨b0, 9, none⟩ = some (.int .i64 r.pull)) (s0 : wT.cell? ⟨b1, 0, none⟩ = some (.int .i64 (c : Int))) (s1 : wT.cell? ⟨b1, 1, none⟩ = some (.int .i64 (i : Int))) (v0 : wT.frozen? ⟨b1, 0, none⟩ = false) (v1 : wT.frozen? ⟨b1, 1, none⟩ = false) (HPT : Aside (∀ j, j < n → NTab r wT P (j * 1891) (kindAtS r most ts j))) :
    Code.wp Try.prog rextTail4 (bodyPost Try.prog Try.f37 (RExtPost w (extS r most ts ((c : Int), (i : Int))))) ⟨List.toArray (z0 :: z1 :: .slice A n cc :: .bool most :: .pointer (some ⟨b0, 0, none⟩) :: .pointer (some ⟨b1, 0, none⟩) :: z6 :: z7 :: z8 :: .slice (some ⟨L, 0, none⟩) (n + 1) (n + 1) :: .slice (some ⟨P, 0, none⟩) n n :: z11 :: z12 :: z13 :: z14 :: z15 :: z16 :: z17 :: z18 :: z19 :: z20 :: z21 :: z22 :: z23 :: z24 :: z25 :: z26 :: z27 :: z28 :: z29 :: z30 :: z31 :: z32 :: z33 :: z34 :: z35 :: z36 :: z37 :: z38 :: z39 :: z40 :: z41 :: z42 :: z43 :: z44 :: z45 :: z46 :: z47 :: z48 :: z49 :: z50 :: z51 :: z52 :: z53 :: z54 :: z55 :: z56 :: z57 :: z58 :: z59 :: z60 :: z61 :: z62 :: z63 :: z64 :: z65 :: z66 :: z67 :: z68 :: z69 :: z70 :: z71 :: z72 :: z73 :: z74 :: z75 :: z76 :: z77 :: z78 :: z79 :: z80 :: z81 :: z82 :: z83 :: z84 :: z85 :: z86 :: z87 :: z88 :: z89 :: z90 :: z91 :: z92 :: z93 :: z94 :: z95 :: z96 :: z97 :: z98 :: z99 :: z100 :: z101 :: z102 :: z103 :: z104 :: z105 :: z106 :: z107 :: z108 :: z109 :: z110 :: z111 :: z112 :: z113 :: z114 :: z115 :: z116 :: z117 :: z118 :: z119 :: z120 :: z121 :: z122 :: z123 :: z124 :: z125 :: z126 :: z127 :: z128 :: z129 :: z130 :: z131 :: z132 :: z133 :: z134 :: z135 :: z136 :: z137 :: z138 :: z139 :: z140 :: z141 :: z142 :: z143 :: z144 :: z145 :: z146 :: z147 :: z148 :: z149 :: z150 :: z151 :: z152 :: z153 :: z154 :: z155 :: z156 :: z157 :: z158 :: z159 :: z160 :: z161 :: z162 :: z163 :: z164 :: z165 :: z166 :: z167 :: z168 :: z169 :: z170 :: z171 :: z172 :: []), []⟩ wT := by
  conv => arg 2; simp only [rextTail4, bodyC, Try.f37, Option.getD_some, dropC, mkC]
  have hst1 := fun c i k hk h0 W => refStep_any r c i k hk h0 hr W
  have hRV : rV r = .agg #[.int .i64 r.frost, .int .i64 r.thaw, .int .i64 r.gain, .int .i64 r.full, .int .i64 r.ice, .int .i64 r.most, .int .i64 r.melt, .int .i64 r.rlow, .int .i64 r.rhigh, .int .i64 r.pull] := rfl
  rw [hRV] at hst1
  obtain ⟨i5, hi5, hzi, hsi, hbi⟩ := info_parts infoKind
  have hsz := hBA.size
  have hu2 := hr.u2
  have hm2 := hr.m2
  have hown := ownsRow_emptyK wT 43 1
  clear hRV
  go_wp2_with fail
  go_loopg [21, 22] (n) (fun gg v ii wr => ∃ (k x y : Nat) (acc : List Int), k ≤ n ∧ n - k ≤ gg ∧ ii = .int .i64 k ∧ Aside (extS r most ts ((c : Int), (i : Int)) = acc ++ extS r most (ts.drop k) ((x : Int), (y : Int))) ∧ Aside (acc.length = k) ∧ Aside (stIn r ((x : Int), (y : Int))) ∧ Aside (OwnK intL 43 wr wT.heap.size v acc) ∧ Aside (wT.grownBy wr (some b1)) ∧ wr.cell? ⟨b1, 0, none⟩ = some (.int .i64 (x : Int)) ∧ wr.cell? ⟨b1, 1, none⟩ = some (.int .i64 (y : Int)) ∧ wr.frozen? ⟨b1, 0, none⟩ = false ∧ wr.frozen? ⟨b1, 1, none⟩ = false)
  case atStart => exact ⟨0, c, i, [], Nat.zero_le _, Nat.le_refl _, rfl, rfl, rfl, hst, hown, World.grownBy_alloc wT _ _, al_cell _ s0, al_cell _ s1, (((Below.refl wT.heap.size wT).alloc (Nat.le_refl _) _).frozen (p := ⟨b1, 0, none⟩) (by show b1 < _; omega)).trans v0, (((Below.refl wT.heap.size wT).alloc (Nat.le_refl _) _).frozen (p := ⟨b1, 1, none⟩) (by show b1 < _; omega)).trans v1⟩
  case round =>
    clear s0 s1 v0 v1 hown
    obtain ⟨k, x, y, acc, hk, hg, rfl, hE, hA, hxy, hO, hgr, s0, s1, v0, v1⟩ := hrel
    obtain ⟨Av, cv, hv, hvl, hvm, hvn, hvE⟩ := hO.out.reads
    subst hv
    have hgz := hgr.out.size
    obtain ⟨wL, hWL⟩ : ∃ X, X = wr := ⟨_, rfl⟩
    subst hWL
    have a0 := gcell hgr.out q0 (by omega)
    have a1 := gcell hgr.out q1 (by omega)
    have a2 := gcell hgr.out q2 (by omega)
    have a3 := gcell hgr.out q3 (by omega)
    have a4 := gcell hgr.out q4 (by omega)
    have a5 := gcell hgr.out q5 (by omega)
    have a6 := gcell hgr.out q6 (by omega)
    have a7 := gcell hgr.out q7 (by omega)
    have a8 := gcell hgr.out q8 (by omega)
    have a9 := gcell hgr.out q9 (by omega)
    by_cases hlt : k < n
    · have hltz : (k : Int) < (n : Int) := by omega
      have hk0 : (0 : Int) ≤ (k : Int) := Int.natCast_nonneg _
      obtain ⟨x1, x2, x3, x4⟩ := hxy.out
      simp only at x1 x2 x3 x4
      have hcl : (x : Int) < 61 := by omega
      have hil : (y : Int) < 31 := by omega
      have pk := gcell hgr.out (HPT.out k hlt x y hxy.out) (by omega)
      have hE2 := hE.out
      rw [extS_drop r most ts k (by have := hn.out; omega)] at hE2
      have hkd : 1 ≤ kindAtS r most ts k ((x : Int), (y : Int)) ∧ kindAtS r most ts k ((x : Int), (y : Int)) ≤ 3 := bestS_kind hr (HW.out k hlt).2.1
      generalize kindAtS r most ts k ((x : Int), (y : Int)) = kd at pk hE2 hkd
      have hstc := hst1 x y kd hkd hxy.out
      have hsi2 := stepT_in hr hxy.out (k := kd)
      rcases hsr : stepT r ((x : Int), (y : Int)) kd with ⟨⟨xa, ya⟩, ran⟩
      rw [hsr] at hstc hsi2 hE2
      obtain ⟨z1, z2, z3, z4⟩ := hsi2
      simp only at z1 z2 z3 z4
      obtain ⟨xa, rfl⟩ := Int.eq_ofNat_of_zero_le z1
      obtain ⟨ya, rfl⟩ := Int.eq_ofNat_of_zero_le z3
      simp only [sV] at hstc
      simp only at hE2
      have hin2 : stIn r ((xa : Int), (ya : Int)) := ⟨z1, z2, z3, z4⟩
      have HE2 := Lib.hid hE2
      have hlb1 : b1 < wL.heap.size := by omega
      have hne := hO.out.lt
      obtain ⟨m, hm⟩ : ∃ m, acc.length = m := ⟨_, rfl⟩
      have hmk : m ≤ 2000 := by have := hA.out; omega
      have hO1 := hO.out
      rw [hm] at hO1 hvl hvn hne ⊢
      have Hm := Lib.hid hm
      clear hm hsr hE2 hvE hE
      go_wp2_with fail
      go_quiet (fail)
      generalize hq : World.drewN wL _ = wQ
      have hbq := drawnT hq
      clear hq
      have hzq := hbq.size
      have e0 := (hbq.cell (p := ⟨b0, 0, none⟩) (by show b0 < _; omega)).trans a0
      have e1 := (hbq.cell (p := ⟨b0, 1, none⟩) (by show b0 < _; omega)).trans a1
      have e2 := (hbq.cell (p := ⟨b0, 2, none⟩) (by show b0 < _; omega)).trans a2
      have e3 := (hbq.cell (p := ⟨b0, 3, none⟩) (by show b0 < _; omega)).trans a3
      have e4 := (hbq.cell (p := ⟨b0, 4, none⟩) (by show b0 < _; omega)).trans a4
      have e5 := (hbq.cell (p := ⟨b0, 5, none⟩) (by show b0 < _; omega)).trans a5
      have e6 := (hbq.cell (p := ⟨b0, 6, none⟩) (by show b0 < _; omega)).trans a6
      have e7 := (hbq.cell (p := ⟨b0, 7, none⟩) (by show b0 < _; omega)).trans a7
      have e8 := (hbq.cell (p := ⟨b0, 8, none⟩) (by show b0 < _; omega)).trans a8
      have e9 := (hbq.cell (p := ⟨b0, 9, none⟩) (by show b0 < _; omega)).trans a9
      have t0 := (hbq.cell (p := ⟨b1, 0, none⟩) hlb1).trans s0
      have t1 := (hbq.cell (p := ⟨b1, 1, none⟩) hlb1).trans s1
      have f0 := (hbq.frozen (p := ⟨b1, 0, none⟩) hlb1).trans v0
      have f1 := (hbq.frozen (p := ⟨b1, 1, none⟩) hlb1).trans v1
      have hO7 := (hO1.below hbq (Nat.le_refl _)).alloc (.cells #[.int .i64 kd] 43)
      have hgq : wT.grownBy wQ (some b1) := grown_below hgr.out (hbq.mono hgz)
      unfold OwnK at hO7
      rw [Hm.out] at hO7
      go_wp2_with (at_builtin; go_loud (refine wpList_append_lies _ rfl _ _ _ (by rfl) wT.heap.size 43 i5 _ 1 8 Try.underlying37 hi5 hzi hsi hbi rfl (by omega) (.slice Av m cv) m (acc.flatMap intL.cs) (by rfl) hO7 ⟨wQ.heap.size, 0, none⟩ 1 1 [.int .i64 kd] (by rfl) (by rfl) (news_one (by simp [go_sem])) (by simp [Value.oneCell']) (by omega) (by simp only [maxLen]; omega) (by omega) (by simp; omega) (wQ.heap.size + 1) (by simp) ?_); intro g5 c5 w5 o5 hgrow hat5 hlt5; have h5b : Below wT.heap.size wQ w5 := Below.grown ((Below.refl _ wQ).alloc (by omega) _) hgrow (by simp; omega) (fun k e => (hne k e).1); have g0' := (h5b.cell (p := ⟨b0, 0, none⟩) (by show b0 < _; omega)).trans e0; have g1' := (h5b.cell (p := ⟨b0, 1, none⟩) (by show b0 < _; omega)).trans e1; have g2' := (h5b.cell (p := ⟨b0, 2, none⟩) (by show b0 < _; omega)).trans e2; have g3' := (h5b.cell (p := ⟨b0, 3, none⟩) (by show b0 < _; omega)).trans e3; have g4' := (h5b.cell (p := ⟨b0, 4, none⟩) (by show b0 < _; omega)).trans e4; have g5' := (h5b.cell (p := ⟨b0, 5, none⟩) (by show b0 < _; omega)).trans e5; have g6' := (h5b.cell (p := ⟨b0, 6, none⟩) (by show b0 < _; omega)).trans e6; have g7' := (h5b.cell (p := ⟨b0, 7, none⟩) (by show b0 < _; omega)).trans e7; have g8' := (h5b.cell (p := ⟨b0, 8, none⟩) (by show b0 < _; omega)).trans e8; have g9' := (h5b.cell (p := ⟨b0, 9, none⟩) (by show b0 < _; omega)).trans e9; have t0' := (h5b.cell (p := ⟨b1, 0, none⟩) (by show b1 < _; omega)).trans t0; have t1' := (h5b.cell (p := ⟨b1, 1, none⟩) (by show b1 < _; omega)).trans t1; have f0' := (h5b.frozen (p := ⟨b1, 0, none⟩) (by show b1 < _; omega)).trans f0; have f1' := (h5b.frozen (p := ⟨b1, 1, none⟩) (by show b1 < _; omega)).trans f1)
      refine (hstc _).mono ?_
      rintro e w7 ⟨rfl, hb7⟩
      generalize (if ran = true then 1 else 0 : Int) = rho
      have hz7 := hb7.size
      have hz5 := h5b.size
      have hl75 : b1 < w5.heap.size := by omega
      have n0 := (hb7.cell (p := ⟨b1, 0, none⟩) hl75).trans t0'
      have n1 := (hb7.cell (p := ⟨b1, 1, none⟩) hl75).trans t1'
      have m0 := (hb7.frozen (p := ⟨b1, 0, none⟩) hl75).trans f0'
      have m1 := (hb7.frozen (p := ⟨b1, 1, none⟩) hl75).trans f1'
      have hg7 : wT.grownBy w7 (some b1) := grown_below (grown_below hgq h5b) (hb7.mono (by omega))
      have hO9 : OwnK intL 43 w7 wT.heap.size (.slice (some ⟨g5, 0, none⟩) (m + 1) c5) (acc ++ [kd]) := (OwnK.snoc (L := intL) (x := kd) o5 Hm.out).below hb7 (Nat.le_refl _)
      clear t0 t1 f0 f1 t0' t1' f0' f1'
      go_wp2
      go_roundg (n - (k + 1))
      case measure => omega
      case rel =>
        refine ⟨k + 1, xa, ya, acc ++ [kd], by omega, by omega, by go_num, ?_, ?_, hin2, (hO9.grown (grown_set w7 b1 0 _) (by omega)).grown (grown_set _ b1 1 _) (by omega), grown_tr (grown_tr hg7 (grown_set _ _ _ _) (fun r e => Or.inr (by cases e; rfl))) (grown_set _ _ _ _) (fun r e => Or.inr (by cases e; rfl)), by simp [go_sem, n0, n1], by simp [go_sem, n0, n1], by simp [go_sem, m0, m1], by simp [go_sem, m0, m1]⟩
        · show _ = _
          rw [HE2.out]; simp
        · show _ = _
          rw [List.length_append, hA.out]; rfl
    · have hltz : ¬ (k : Int) < (n : Int) := by omega
      obtain rfl : k = n := by omega
      have hE2 := hE.out
      rw [List.drop_eq_nil_of_le (by have := hn.out; omega)] at hE2
      simp only [extS, List.append_nil] at hE2
      have hBw := hBA.grown hgr.out hsz (fun k e => by cases e; omega)
      have HE2 := Lib.hid hE2
      have HvE := Lib.hid hvE
      clear hE2 hvE hE
      go_wp2
      go_ret
      refine ⟨Av, _, cv, rfl, by rw [HE2.out], hvl, hvm, hvn, ?_, hBw⟩
      rw [HE2.out]
      exact (intL_at.1 HvE.out).mono hsz


end Go.Proofs.Ytlkecgjpmnganaa
