/- ThawRuns: the walk. -/
import Derived.Test.YtlkecgjpmnganaaThBt
import Derived.Test.YtlkecgjpmnganaaThRuns
import Derived.Test.YtlkecgjpmnganaaThEnds
import Derived.Test.YtlkecgjpmnganaaThExtreme
import Derived.Test.YtlkecgjpmnganaaThRExtA
import Derived.Test.YtlkecgjpmnganaaThRef2
import Derived.Test.YtlkecgjpmnganaaThCopy
import Derived.Test.YtlkecgjpmnganaaThSame
import Derived.Test.YtlkecgjpmnganaaThCoursesN
import Derived.Test.YtlkecgjpmnganaaThKnown
import Derived.Test.YtlkecgjpmnganaaThTab6
import Derived.Test.YtlkecgjpmnganaaSplit
import Derived.RegionTactic
import Derived.BigQuiet
import Derived.BigRegion
set_option linter.unusedSimpArgs false
set_option linter.unusedVariables false
namespace Go.Proofs.Ytlkecgjpmnganaa
open Go.RowKit Go.Shelf

noncomputable def lrunTail10 : Code := dropC 10 (bodyC Try.f5)
set_option maxRecDepth 100000 in
set_option maxHeartbeats 4000000 in
theorem runs_t10 {z0 z3 z4 z5 z6 z7 z8 z10 z12 z13 z14 z15 z16 z17 z18 z19 z20 z21 z22 z23 z24 z25 z26 z27 z28 z29 z30 z31 z32 z33 z34 z35 z36 z37 z38 z39 z40 z41 z42 z43 z44 z45 z46 z47 z48 z49 z50 z51 z52 z53 z54 z55 z56 z57 z58 z59 z60 z61 z62 z63 z64 z65 z66 z67 z68 z69 z70 z71 z72 z73 z74 z75 z76 z77 z78 z79 z80 z81 z82 z83 z84 z85 z86 z87 z88 z89 z90 z91 z92 z93 z94 z95 z96 z97 z98 z99 z100 z101 z102 z103 z104 z105 z106 z107 z108 z109 z110 z111 z112 z113 z114 z115 z116 z117 z118 z119 z120 z121 z122 z123 z124 z125 z126 z127 z128 z129 z130 z131 z132 z133 z134 z135 z136 z137 z138 z139 z140 z141 z142 z143 z144 z145 z146 z147 z148 z149 z150 z151 z152 z153 z154 z155 z156 z157 z158 z159 z160 z161 z162 z163 z164 : Value} (r : TR) (c i : Int) (lo : Nat) (A : Option Addr) (n cc : Nat) (ts : List R) (w : World) (HX : Aside (Ranges w lo A ts)) (h0 : A = none → n = 0 ∧ cc = 0) (hn : Aside (ts.length = n)) (hl : n ≤ 1100) (Her : Aside (errT r c i ts = 0)) (wA : World) (hBA : Below w.heap.size w wA) (hA0 : w.heap.size < wA.heap.size) (q0 : wA.cell? ⟨w.heap.size, 0, none⟩ = some (.int .i64 r.frost)) (q1 : wA.cell? ⟨w.heap.size, 1, none⟩ = some (.int .i64 r.thaw)) (q2 : wA.cell? ⟨w.heap.size, 2, none⟩ = some (.int .i64 r.gain)) (q3 : wA.cell? ⟨w.heap.size, 3, none⟩ = some (.int .i64 r.full)) (q4 : wA.cell? ⟨w.heap.size, 4, none⟩ = some (.int .i64 r.ice)) (q5 : wA.cell? ⟨w.heap.size, 5, none⟩ = some (.int .i64 r.most)) (q6 : wA.cell? ⟨w.heap.size, 6, none⟩ = some (.int .i64 r.melt)) (q7 : wA.cell? ⟨w.heap.size, 7, none⟩ = some (.int .i64 r.rlow)) (q8 : wA.cell? ⟨w.heap.size, 8, none⟩ = some (.int .i64 r.rhigh)) (q9 : wA.cell? ⟨w.heap.size, 9, none⟩ = some (.int .i64 r.pull)) (q10 : wA.cell? ⟨w.heap.size, 10, none⟩ = some (.int .i64 c)) (q11 : wA.cell? ⟨w.heap.size, 11, none⟩ = some (.int .i64 i)) (A9 : Option Addr) (m9 c9 : Nat) (ys9 : List Int) (Hl9 : Aside (ys9.length = m9)) (Hm9 : Aside (m9 ≤ c9 ∧ c9 ≤ maxLen)) (HY9 : Aside (Ints wA 0 A9 ys9)) (He9 : Aside (ys9 = extS r false ts (c, i))) (A11 : Option Addr) (m11 c11 : Nat) (ys11 : List Int) (Hl11 : Aside (ys11.length = m11)) (Hm11 : Aside (m11 ≤ c11 ∧ c11 ≤ maxLen)) (HY11 : Aside (Ints wA 0 A11 ys11)) (He11 : Aside (ys11 = extS r true ts (c, i))) :
    Code.wp Try.prog lrunTail10 (bodyPost Try.prog Try.f5 fun e w' => e = .returned (.bool true) ∧ Below w.heap.size w w') ⟨List.toArray (z0 :: .slice A n cc :: .pointer (some ⟨w.heap.size, 0, none⟩) :: z3 :: z4 :: z5 :: z6 :: z7 :: z8 :: .slice A9 m9 c9 :: z10 :: .slice A11 m11 c11 :: z12 :: z13 :: z14 :: z15 :: z16 :: z17 :: z18 :: z19 :: z20 :: z21 :: z22 :: z23 :: z24 :: z25 :: z26 :: z27 :: z28 :: z29 :: z30 :: z31 :: z32 :: z33 :: z34 :: z35 :: z36 :: z37 :: z38 :: z39 :: z40 :: z41 :: z42 :: z43 :: z44 :: z45 :: z46 :: z47 :: z48 :: z49 :: z50 :: z51 :: z52 :: z53 :: z54 :: z55 :: z56 :: z57 :: z58 :: z59 :: z60 :: z61 :: z62 :: z63 :: z64 :: z65 :: z66 :: z67 :: z68 :: z69 :: z70 :: z71 :: z72 :: z73 :: z74 :: z75 :: z76 :: z77 :: z78 :: z79 :: z80 :: z81 :: z82 :: z83 :: z84 :: z85 :: z86 :: z87 :: z88 :: z89 :: z90 :: z91 :: z92 :: z93 :: z94 :: z95 :: z96 :: z97 :: z98 :: z99 :: z100 :: z101 :: z102 :: z103 :: z104 :: z105 :: z106 :: z107 :: z108 :: z109 :: z110 :: z111 :: z112 :: z113 :: z114 :: z115 :: z116 :: z117 :: z118 :: z119 :: z120 :: z121 :: z122 :: z123 :: z124 :: z125 :: z126 :: z127 :: z128 :: z129 :: z130 :: z131 :: z132 :: z133 :: z134 :: z135 :: z136 :: z137 :: z138 :: z139 :: z140 :: z141 :: z142 :: z143 :: z144 :: z145 :: z146 :: z147 :: z148 :: z149 :: z150 :: z151 :: z152 :: z153 :: z154 :: z155 :: z156 :: z157 :: z158 :: z159 :: z160 :: z161 :: z162 :: z163 :: z164 :: []), []⟩ wA := by
  conv => arg 2; simp only [lrunTail10, bodyC, Try.f5, Option.getD_some, dropC, mkC]
  have hkn := fun (W : World) => known_any W
  obtain ⟨hr, hst, hlen, hok⟩ := errT_ok Her.out
  have hF := fun W (hb : Below w.heap.size w W) => refExtreme_any r hr c i hst false lo A n cc ts W (HX.out.below hb (Nat.le_refl _)) hn (by have := hn.out; omega) hok
  have hM := fun W (hb : Below w.heap.size w W) => refExtreme_any r hr c i hst true lo A n cc ts W (HX.out.below hb (Nat.le_refl _)) hn (by have := hn.out; omega) hok
  rw [show rV r = .agg #[.int .i64 r.frost, .int .i64 r.thaw, .int .i64 r.gain, .int .i64 r.full, .int .i64 r.ice, .int .i64 r.most, .int .i64 r.melt, .int .i64 r.rlow, .int .i64 r.rhigh, .int .i64 r.pull] from rfl, ← He9.out] at hF
  rw [show rV r = .agg #[.int .i64 r.frost, .int .i64 r.thaw, .int .i64 r.gain, .int .i64 r.full, .int .i64 r.ice, .int .i64 r.most, .int .i64 r.melt, .int .i64 r.rlow, .int .i64 r.rhigh, .int .i64 r.pull] from rfl, ← He11.out] at hM
  have hs9 := fun A2 c2 W (h1 : Ints W 0 A9 ys9) (h2 : Ints W 0 A2 ys9) => sameK_self 0 0 A9 c9 A2 m9 c2 ys9 W h1 h2 Hl9 (Nat.le_trans Hm9.out.1 Hm9.out.2)
  have hs11 := fun A2 c2 W (h1 : Ints W 0 A11 ys11) (h2 : Ints W 0 A2 ys11) => sameK_self 0 0 A11 c11 A2 m11 c2 ys11 W h1 h2 Hl11 (Nat.le_trans Hm11.out.1 Hm11.out.2)
  have hsz := hBA.size
  clear hr hst hlen hok
  go_wp2_with fail
  refine Calls.mono (hF _ hBA) ?_
  rintro e wD ⟨A2, n2, c2, rfl, hl2, _, _, _, hR2, hbD⟩
  obtain rfl : n2 = m9 := by rw [← hl2]; exact Hl9.out
  have hBD : Below w.heap.size w wD := btS hBA (Nat.le_refl _) hbD
  replace q0 := (hbD.cell (p := ⟨w.heap.size, 0, none⟩) (by show w.heap.size < _; omega)).trans q0
  replace q1 := (hbD.cell (p := ⟨w.heap.size, 1, none⟩) (by show w.heap.size < _; omega)).trans q1
  replace q2 := (hbD.cell (p := ⟨w.heap.size, 2, none⟩) (by show w.heap.size < _; omega)).trans q2
  replace q3 := (hbD.cell (p := ⟨w.heap.size, 3, none⟩) (by show w.heap.size < _; omega)).trans q3
  replace q4 := (hbD.cell (p := ⟨w.heap.size, 4, none⟩) (by show w.heap.size < _; omega)).trans q4
  replace q5 := (hbD.cell (p := ⟨w.heap.size, 5, none⟩) (by show w.heap.size < _; omega)).trans q5
  replace q6 := (hbD.cell (p := ⟨w.heap.size, 6, none⟩) (by show w.heap.size < _; omega)).trans q6
  replace q7 := (hbD.cell (p := ⟨w.heap.size, 7, none⟩) (by show w.heap.size < _; omega)).trans q7
  replace q8 := (hbD.cell (p := ⟨w.heap.size, 8, none⟩) (by show w.heap.size < _; omega)).trans q8
  replace q9 := (hbD.cell (p := ⟨w.heap.size, 9, none⟩) (by show w.heap.size < _; omega)).trans q9
  replace q10 := (hbD.cell (p := ⟨w.heap.size, 10, none⟩) (by show w.heap.size < _; omega)).trans q10
  replace q11 := (hbD.cell (p := ⟨w.heap.size, 11, none⟩) (by show w.heap.size < _; omega)).trans q11
  replace HY9 := HY9.out.below hbD (Nat.le_refl _)
  replace HY11 := HY11.out.below hbD (Nat.le_refl _)
  replace hA0 := Nat.lt_of_lt_of_le hA0 hbD.size
  go_wp2_with fail
  refine Calls.mono (hs9 A2 c2 _ HY9 (hR2.mono (Nat.zero_le _))) ?_
  rintro e wE ⟨rfl, hd⟩
  have hbE := drew_all hd
  have hBE : Below w.heap.size w wE := btS hBD (Nat.le_refl _) hbE
  replace q0 := (hbE.cell (p := ⟨w.heap.size, 0, none⟩) (by show w.heap.size < _; omega)).trans q0
  replace q1 := (hbE.cell (p := ⟨w.heap.size, 1, none⟩) (by show w.heap.size < _; omega)).trans q1
  replace q2 := (hbE.cell (p := ⟨w.heap.size, 2, none⟩) (by show w.heap.size < _; omega)).trans q2
  replace q3 := (hbE.cell (p := ⟨w.heap.size, 3, none⟩) (by show w.heap.size < _; omega)).trans q3
  replace q4 := (hbE.cell (p := ⟨w.heap.size, 4, none⟩) (by show w.heap.size < _; omega)).trans q4
  replace q5 := (hbE.cell (p := ⟨w.heap.size, 5, none⟩) (by show w.heap.size < _; omega)).trans q5
  replace q6 := (hbE.cell (p := ⟨w.heap.size, 6, none⟩) (by show w.heap.size < _; omega)).trans q6
  replace q7 := (hbE.cell (p := ⟨w.heap.size, 7, none⟩) (by show w.heap.size < _; omega)).trans q7
  replace q8 := (hbE.cell (p := ⟨w.heap.size, 8, none⟩) (by show w.heap.size < _; omega)).trans q8
  replace q9 := (hbE.cell (p := ⟨w.heap.size, 9, none⟩) (by show w.heap.size < _; omega)).trans q9
  replace q10 := (hbE.cell (p := ⟨w.heap.size, 10, none⟩) (by show w.heap.size < _; omega)).trans q10
  replace q11 := (hbE.cell (p := ⟨w.heap.size, 11, none⟩) (by show w.heap.size < _; omega)).trans q11
  replace HY9 := HY9.below hbE (Nat.le_refl _)
  replace HY11 := HY11.below hbE (Nat.le_refl _)
  replace hA0 := Nat.lt_of_lt_of_le hA0 hbE.size
  go_wp2_with fail
  refine Calls.mono (hM _ hBE) ?_
  rintro e wF ⟨A3, n3, c3, rfl, hl3, _, _, _, hR3, hbF⟩
  obtain rfl : n3 = m11 := by rw [← hl3]; exact Hl11.out
  have hBF : Below w.heap.size w wF := btS hBE (Nat.le_refl _) hbF
  replace q0 := (hbF.cell (p := ⟨w.heap.size, 0, none⟩) (by show w.heap.size < _; omega)).trans q0
  replace q1 := (hbF.cell (p := ⟨w.heap.size, 1, none⟩) (by show w.heap.size < _; omega)).trans q1
  replace q2 := (hbF.cell (p := ⟨w.heap.size, 2, none⟩) (by show w.heap.size < _; omega)).trans q2
  replace q3 := (hbF.cell (p := ⟨w.heap.size, 3, none⟩) (by show w.heap.size < _; omega)).trans q3
  replace q4 := (hbF.cell (p := ⟨w.heap.size, 4, none⟩) (by show w.heap.size < _; omega)).trans q4
  replace q5 := (hbF.cell (p := ⟨w.heap.size, 5, none⟩) (by show w.heap.size < _; omega)).trans q5
  replace q6 := (hbF.cell (p := ⟨w.heap.size, 6, none⟩) (by show w.heap.size < _; omega)).trans q6
  replace q7 := (hbF.cell (p := ⟨w.heap.size, 7, none⟩) (by show w.heap.size < _; omega)).trans q7
  replace q8 := (hbF.cell (p := ⟨w.heap.size, 8, none⟩) (by show w.heap.size < _; omega)).trans q8
  replace q9 := (hbF.cell (p := ⟨w.heap.size, 9, none⟩) (by show w.heap.size < _; omega)).trans q9
  replace q10 := (hbF.cell (p := ⟨w.heap.size, 10, none⟩) (by show w.heap.size < _; omega)).trans q10
  replace q11 := (hbF.cell (p := ⟨w.heap.size, 11, none⟩) (by show w.heap.size < _; omega)).trans q11
  replace HY11 := HY11.below hbF (Nat.le_refl _)
  replace hA0 := Nat.lt_of_lt_of_le hA0 hbF.size
  go_wp2_with fail
  refine Calls.mono (hs11 A3 c3 _ HY11 (hR3.mono (Nat.zero_le _))) ?_
  rintro e wG ⟨rfl, hd2⟩
  have hbG := drew_all hd2
  have hBG : Below w.heap.size w wG := btS hBF (Nat.le_refl _) hbG
  go_wp2_with fail
  refine (hkn _).mono ?_
  rintro e wK ⟨rfl, hbK⟩
  go_wp2
  go_ret
  exact ⟨rfl, btS hBG (Nat.le_refl _) hbK⟩

noncomputable def lrunTail8 : Code := dropC 8 (bodyC Try.f5)
set_option maxRecDepth 100000 in
set_option maxHeartbeats 4000000 in
theorem runs_t8 {z0 z3 z4 z13 z15 z16 z17 z18 z19 z20 z21 z22 z23 z24 z25 z26 z27 z28 z29 z30 z31 z32 z33 z34 z35 z36 z37 z38 z39 z40 z41 z42 z43 z44 z45 z46 z47 z48 z49 z50 z51 z52 z53 z54 z55 z56 z57 z58 z59 z60 z61 z62 z63 z64 z65 z66 z67 z68 z69 z70 z71 z72 z73 z74 z75 z76 z77 z78 z79 z80 z81 z82 z83 z84 z85 z86 z87 z88 z89 z90 z91 z92 z93 z94 z95 z96 z97 z98 z99 z100 z101 z102 z103 z104 z105 z106 z107 z108 z109 z110 z111 z112 z113 z114 z115 z116 z117 z118 z119 z120 z121 z122 z123 z124 z125 z126 z127 z128 z129 z130 z131 z132 z133 z134 z135 z136 z137 z138 z139 z140 z141 z142 z143 z144 z145 z146 z147 z148 z149 z150 z151 z152 z153 z154 z155 z156 z157 z158 z159 z160 z161 z162 z163 z164 : Value} (r : TR) (c i : Int) (lo : Nat) (A : Option Addr) (n cc : Nat) (ts : List R) (w : World) (HX : Aside (Ranges w lo A ts)) (h0 : A = none → n = 0 ∧ cc = 0) (hn : Aside (ts.length = n)) (hl : n ≤ 1100) (Her : Aside (errT r c i ts = 0)) (wA : World) (hBA : Below w.heap.size w wA) (hA0 : w.heap.size < wA.heap.size) (q0 : wA.cell? ⟨w.heap.size, 0, none⟩ = some (.int .i64 r.frost)) (q1 : wA.cell? ⟨w.heap.size, 1, none⟩ = some (.int .i64 r.thaw)) (q2 : wA.cell? ⟨w.heap.size, 2, none⟩ = some (.int .i64 r.gain)) (q3 : wA.cell? ⟨w.heap.size, 3, none⟩ = some (.int .i64 r.full)) (q4 : wA.cell? ⟨w.heap.size, 4, none⟩ = some (.int .i64 r.ice)) (q5 : wA.cell? ⟨w.heap.size, 5, none⟩ = some (.int .i64 r.most)) (q6 : wA.cell? ⟨w.heap.size, 6, none⟩ = some (.int .i64 r.melt)) (q7 : wA.cell? ⟨w.heap.size, 7, none⟩ = some (.int .i64 r.rlow)) (q8 : wA.cell? ⟨w.heap.size, 8, none⟩ = some (.int .i64 r.rhigh)) (q9 : wA.cell? ⟨w.heap.size, 9, none⟩ = some (.int .i64 r.pull)) (q10 : wA.cell? ⟨w.heap.size, 10, none⟩ = some (.int .i64 c)) (q11 : wA.cell? ⟨w.heap.size, 11, none⟩ = some (.int .i64 i)) (b5 : Nat) (x5 y5 : Int) (l5 : b5 < wA.heap.size) (c50 : wA.cell? ⟨b5, 0, none⟩ = some (.int .i64 x5)) (c51 : wA.cell? ⟨b5, 1, none⟩ = some (.int .i64 y5)) (Hz5 : Aside (Rep1 (some (x5, y5)) (anyC (thruC r (ts.map pr) (oneC (c, i)))))) (A7 : Option Addr) (n7 c7 : Nat) (xs7 : List R) (Hl7 : Aside (xs7.length = n7)) (Hm7 : Aside (n7 ≤ c7 ∧ c7 ≤ maxLen)) (HR7 : Aside (Ranges wA 0 A7 xs7)) (Hg7 : Aside (∃ G, Rep G (thruC r (ts.map pr) (oneC (c, i))) ∧ xs7 = endsR G 1891)) (A9 : Option Addr) (m9 c9 : Nat) (ys9 : List Int) (Hl9 : Aside (ys9.length = m9)) (Hm9 : Aside (m9 ≤ c9 ∧ c9 ≤ maxLen)) (HY9 : Aside (Ints wA 0 A9 ys9)) (He9 : Aside (ys9 = extS r false ts (c, i))) (A11 : Option Addr) (m11 c11 : Nat) (ys11 : List Int) (Hl11 : Aside (ys11.length = m11)) (Hm11 : Aside (m11 ≤ c11 ∧ c11 ≤ maxLen)) (HY11 : Aside (Ints wA 0 A11 ys11)) (He11 : Aside (ys11 = extS r true ts (c, i))) (b14 : Nat) (G : Fl) (l14 : b14 < wA.heap.size) (HT14 : Aside (Tab wA b14 (rawF G))) (HG : Aside (Rep G (thruC r (ts.map pr) (oneC (c, i))))) :
    Code.wp Try.prog lrunTail8 (bodyPost Try.prog Try.f5 fun e w' => e = .returned (.bool true) ∧ Below w.heap.size w w') ⟨List.toArray (z0 :: .slice A n cc :: .pointer (some ⟨w.heap.size, 0, none⟩) :: z3 :: z4 :: .pointer (some ⟨b5, 0, none⟩) :: .int .i64 0 :: .slice A7 n7 c7 :: .int .i64 0 :: .slice A9 m9 c9 :: .int .i64 0 :: .slice A11 m11 c11 :: .int .i64 0 :: z13 :: .pointer (some ⟨b14, 0, none⟩) :: z15 :: z16 :: z17 :: z18 :: z19 :: z20 :: z21 :: z22 :: z23 :: z24 :: z25 :: z26 :: z27 :: z28 :: z29 :: z30 :: z31 :: z32 :: z33 :: z34 :: z35 :: z36 :: z37 :: z38 :: z39 :: z40 :: z41 :: z42 :: z43 :: z44 :: z45 :: z46 :: z47 :: z48 :: z49 :: z50 :: z51 :: z52 :: z53 :: z54 :: z55 :: z56 :: z57 :: z58 :: z59 :: z60 :: z61 :: z62 :: z63 :: z64 :: z65 :: z66 :: z67 :: z68 :: z69 :: z70 :: z71 :: z72 :: z73 :: z74 :: z75 :: z76 :: z77 :: z78 :: z79 :: z80 :: z81 :: z82 :: z83 :: z84 :: z85 :: z86 :: z87 :: z88 :: z89 :: z90 :: z91 :: z92 :: z93 :: z94 :: z95 :: z96 :: z97 :: z98 :: z99 :: z100 :: z101 :: z102 :: z103 :: z104 :: z105 :: z106 :: z107 :: z108 :: z109 :: z110 :: z111 :: z112 :: z113 :: z114 :: z115 :: z116 :: z117 :: z118 :: z119 :: z120 :: z121 :: z122 :: z123 :: z124 :: z125 :: z126 :: z127 :: z128 :: z129 :: z130 :: z131 :: z132 :: z133 :: z134 :: z135 :: z136 :: z137 :: z138 :: z139 :: z140 :: z141 :: z142 :: z143 :: z144 :: z145 :: z146 :: z147 :: z148 :: z149 :: z150 :: z151 :: z152 :: z153 :: z154 :: z155 :: z156 :: z157 :: z158 :: z159 :: z160 :: z161 :: z162 :: z163 :: z164 :: []), []⟩ wA := by
  have hR : lrunTail10 = dropC 2 lrunTail8 := (dropC_add 2 8 _).symm
  refine wp_tail 2 hR ?_
  conv => arg 2; simp only [lrunTail8, bodyC, Try.f5, Option.getD_some, dropC, mkC]
  obtain ⟨hr, hst, hlen, hok⟩ := errT_ok Her.out
  have hCI := thruC_in hr (ts.map pr) (oneC_in hst)
  have hbd := thruC_bd r (ts.map pr) (oneC (c, i)) 0 (oneC_bd _)
  have hok2 := okO_rep HG.out (fun s m h => by have := hbd s m h; have h2 : (ts.map pr).length = ts.length := List.length_map ..; omega)
  have hA := fun W => refAll_any G hok2 W
  rw [(all_any_rep hr HG.out hCI).uniq Hz5.out] at hA
  obtain ⟨G', hG', hx7⟩ := Hg7.out
  obtain rfl := hG'.uniq HG.out
  have hE := fun W => refEnds_any G' hok2 W
  rw [← hx7] at hE
  have hss := fun A2 c2 W (h1 : Ranges W 0 A7 xs7) (h2 : Ranges W 0 A2 xs7) => states_self 0 0 A7 c7 A2 n7 c2 xs7 W h1 h2 Hl7 (Nat.le_trans Hm7.out.1 Hm7.out.2)
  unfold tabV at hA hE
  have hsz := hBA.size
  clear hr hst hlen hok hCI hbd hok2 hG' hx7
  go_wp2_with (refine wpList_load_tab rfl _ rfl _ rfl (rawF G') HT14.out ?_)
  refine Calls.mono (hA _) ?_
  rintro e wD ⟨rfl, hbD⟩
  have hBD : Below w.heap.size w wD := btS hBA (Nat.le_refl _) hbD
  replace c50 := (hbD.cell (p := ⟨b5, 0, none⟩) (by show b5 < _; omega)).trans c50
  replace c51 := (hbD.cell (p := ⟨b5, 1, none⟩) (by show b5 < _; omega)).trans c51
  replace l5 := Nat.lt_of_lt_of_le l5 hbD.size
  replace q0 := (hbD.cell (p := ⟨w.heap.size, 0, none⟩) (by show w.heap.size < _; omega)).trans q0
  replace q1 := (hbD.cell (p := ⟨w.heap.size, 1, none⟩) (by show w.heap.size < _; omega)).trans q1
  replace q2 := (hbD.cell (p := ⟨w.heap.size, 2, none⟩) (by show w.heap.size < _; omega)).trans q2
  replace q3 := (hbD.cell (p := ⟨w.heap.size, 3, none⟩) (by show w.heap.size < _; omega)).trans q3
  replace q4 := (hbD.cell (p := ⟨w.heap.size, 4, none⟩) (by show w.heap.size < _; omega)).trans q4
  replace q5 := (hbD.cell (p := ⟨w.heap.size, 5, none⟩) (by show w.heap.size < _; omega)).trans q5
  replace q6 := (hbD.cell (p := ⟨w.heap.size, 6, none⟩) (by show w.heap.size < _; omega)).trans q6
  replace q7 := (hbD.cell (p := ⟨w.heap.size, 7, none⟩) (by show w.heap.size < _; omega)).trans q7
  replace q8 := (hbD.cell (p := ⟨w.heap.size, 8, none⟩) (by show w.heap.size < _; omega)).trans q8
  replace q9 := (hbD.cell (p := ⟨w.heap.size, 9, none⟩) (by show w.heap.size < _; omega)).trans q9
  replace q10 := (hbD.cell (p := ⟨w.heap.size, 10, none⟩) (by show w.heap.size < _; omega)).trans q10
  replace q11 := (hbD.cell (p := ⟨w.heap.size, 11, none⟩) (by show w.heap.size < _; omega)).trans q11
  replace HR7 := HR7.out.below hbD (Nat.le_refl _)
  replace HY9 := HY9.out.below hbD (Nat.le_refl _)
  replace HY11 := HY11.out.below hbD (Nat.le_refl _)
  replace hA0 := Nat.lt_of_lt_of_le hA0 hbD.size
  replace HT14 := HT14.out.below hbD l14
  replace l14 := Nat.lt_of_lt_of_le l14 hbD.size
  unfold rgO
  go_upto_region 12 with fail
  obtain ⟨E0, hNE0⟩ : ∃ X, X = wD.alloc (.cells #[.int .i64 x5, .int .i64 y5] 23) := ⟨_, rfl⟩
  have hsE0 : E0.heap.size = wD.heap.size + 1 := by rw [hNE0]; simp
  have hbE0 : Below wD.heap.size wD E0 := by rw [hNE0]; exact (Below.refl _ _).alloc (Nat.le_refl _) _
  have d0 : E0.cell? ⟨wD.heap.size, 0, none⟩ = some (.int .i64 x5) := by rw [hNE0]; simp [go_sem]
  have d1 : E0.cell? ⟨wD.heap.size, 1, none⟩ = some (.int .i64 y5) := by rw [hNE0]; simp [go_sem]
  rw [← hNE0]
  clear hNE0
  have hBWE : Below wD.heap.size wD E0 := hbE0
  clear hbE0
  replace c50 := (hBWE.cell (p := ⟨b5, 0, none⟩) (by show b5 < _; omega)).trans c50
  replace c51 := (hBWE.cell (p := ⟨b5, 1, none⟩) (by show b5 < _; omega)).trans c51
  replace l5 := Nat.lt_of_lt_of_le l5 hBWE.size
  replace q0 := (hBWE.cell (p := ⟨w.heap.size, 0, none⟩) (by show w.heap.size < _; omega)).trans q0
  replace q1 := (hBWE.cell (p := ⟨w.heap.size, 1, none⟩) (by show w.heap.size < _; omega)).trans q1
  replace q2 := (hBWE.cell (p := ⟨w.heap.size, 2, none⟩) (by show w.heap.size < _; omega)).trans q2
  replace q3 := (hBWE.cell (p := ⟨w.heap.size, 3, none⟩) (by show w.heap.size < _; omega)).trans q3
  replace q4 := (hBWE.cell (p := ⟨w.heap.size, 4, none⟩) (by show w.heap.size < _; omega)).trans q4
  replace q5 := (hBWE.cell (p := ⟨w.heap.size, 5, none⟩) (by show w.heap.size < _; omega)).trans q5
  replace q6 := (hBWE.cell (p := ⟨w.heap.size, 6, none⟩) (by show w.heap.size < _; omega)).trans q6
  replace q7 := (hBWE.cell (p := ⟨w.heap.size, 7, none⟩) (by show w.heap.size < _; omega)).trans q7
  replace q8 := (hBWE.cell (p := ⟨w.heap.size, 8, none⟩) (by show w.heap.size < _; omega)).trans q8
  replace q9 := (hBWE.cell (p := ⟨w.heap.size, 9, none⟩) (by show w.heap.size < _; omega)).trans q9
  replace q10 := (hBWE.cell (p := ⟨w.heap.size, 10, none⟩) (by show w.heap.size < _; omega)).trans q10
  replace q11 := (hBWE.cell (p := ⟨w.heap.size, 11, none⟩) (by show w.heap.size < _; omega)).trans q11
  replace HR7 := HR7.below hBWE (Nat.le_refl _)
  replace HY9 := HY9.below hBWE (Nat.le_refl _)
  replace HY11 := HY11.below hBWE (Nat.le_refl _)
  replace hA0 := Nat.lt_of_lt_of_le hA0 hBWE.size
  replace HT14 := HT14.below hBWE l14
  have l15 : wD.heap.size < E0.heap.size := by omega
  have hBE : Below w.heap.size w E0 := btS hBD (Nat.le_refl _) hBWE
  clear hsE0
  go_wp2_with fail
  refine wp_load_mid _ _ rfl b14 0 rfl (tabL (rawF G')) _ HT14.range Try.underlying63 rfl (by rw [tabL_len]; kernel_rfl) ?_
  rename_i hK0
  refine hK0 _ _ ?_
  clear hK0
  change wpList _ _ _ _ (Act.put _ _ (.agg (tabA (rawF G')))) _
  go_wp2_with fail
  refine Calls.mono (hE _) ?_
  rintro e wF ⟨A2, n2, c2, rfl, hl2, _, _, hR2, hbF⟩
  obtain rfl : n2 = n7 := by rw [← hl2]; exact Hl7.out
  have hBF : Below w.heap.size w wF := btS hBE (Nat.le_refl _) hbF
  replace q0 := (hbF.cell (p := ⟨w.heap.size, 0, none⟩) (by show w.heap.size < _; omega)).trans q0
  replace q1 := (hbF.cell (p := ⟨w.heap.size, 1, none⟩) (by show w.heap.size < _; omega)).trans q1
  replace q2 := (hbF.cell (p := ⟨w.heap.size, 2, none⟩) (by show w.heap.size < _; omega)).trans q2
  replace q3 := (hbF.cell (p := ⟨w.heap.size, 3, none⟩) (by show w.heap.size < _; omega)).trans q3
  replace q4 := (hbF.cell (p := ⟨w.heap.size, 4, none⟩) (by show w.heap.size < _; omega)).trans q4
  replace q5 := (hbF.cell (p := ⟨w.heap.size, 5, none⟩) (by show w.heap.size < _; omega)).trans q5
  replace q6 := (hbF.cell (p := ⟨w.heap.size, 6, none⟩) (by show w.heap.size < _; omega)).trans q6
  replace q7 := (hbF.cell (p := ⟨w.heap.size, 7, none⟩) (by show w.heap.size < _; omega)).trans q7
  replace q8 := (hbF.cell (p := ⟨w.heap.size, 8, none⟩) (by show w.heap.size < _; omega)).trans q8
  replace q9 := (hbF.cell (p := ⟨w.heap.size, 9, none⟩) (by show w.heap.size < _; omega)).trans q9
  replace q10 := (hbF.cell (p := ⟨w.heap.size, 10, none⟩) (by show w.heap.size < _; omega)).trans q10
  replace q11 := (hbF.cell (p := ⟨w.heap.size, 11, none⟩) (by show w.heap.size < _; omega)).trans q11
  replace HR7 := HR7.below hbF (Nat.le_refl _)
  replace HY9 := HY9.below hbF (Nat.le_refl _)
  replace HY11 := HY11.below hbF (Nat.le_refl _)
  replace hA0 := Nat.lt_of_lt_of_le hA0 hbF.size
  go_wp2_with fail
  refine Calls.mono (hss A2 c2 _ HR7 (hR2.mono (Nat.zero_le _))) ?_
  rintro e wG ⟨rfl, hd⟩
  have hbG := drew_all hd
  have hBG : Below w.heap.size w wG := btS hBF (Nat.le_refl _) hbG
  replace q0 := (hbG.cell (p := ⟨w.heap.size, 0, none⟩) (by show w.heap.size < _; omega)).trans q0
  replace q1 := (hbG.cell (p := ⟨w.heap.size, 1, none⟩) (by show w.heap.size < _; omega)).trans q1
  replace q2 := (hbG.cell (p := ⟨w.heap.size, 2, none⟩) (by show w.heap.size < _; omega)).trans q2
  replace q3 := (hbG.cell (p := ⟨w.heap.size, 3, none⟩) (by show w.heap.size < _; omega)).trans q3
  replace q4 := (hbG.cell (p := ⟨w.heap.size, 4, none⟩) (by show w.heap.size < _; omega)).trans q4
  replace q5 := (hbG.cell (p := ⟨w.heap.size, 5, none⟩) (by show w.heap.size < _; omega)).trans q5
  replace q6 := (hbG.cell (p := ⟨w.heap.size, 6, none⟩) (by show w.heap.size < _; omega)).trans q6
  replace q7 := (hbG.cell (p := ⟨w.heap.size, 7, none⟩) (by show w.heap.size < _; omega)).trans q7
  replace q8 := (hbG.cell (p := ⟨w.heap.size, 8, none⟩) (by show w.heap.size < _; omega)).trans q8
  replace q9 := (hbG.cell (p := ⟨w.heap.size, 9, none⟩) (by show w.heap.size < _; omega)).trans q9
  replace q10 := (hbG.cell (p := ⟨w.heap.size, 10, none⟩) (by show w.heap.size < _; omega)).trans q10
  replace q11 := (hbG.cell (p := ⟨w.heap.size, 11, none⟩) (by show w.heap.size < _; omega)).trans q11
  replace HY9 := HY9.below hbG (Nat.le_refl _)
  replace HY11 := HY11.below hbG (Nat.le_refl _)
  replace hA0 := Nat.lt_of_lt_of_le hA0 hbG.size
  go_wp2_with fail
  exact runs_t10 r c i lo A n cc ts w HX h0 hn hl Her wG hBG hA0 q0 q1 q2 q3 q4 q5 q6 q7 q8 q9 q10 q11 A9 m9 c9 ys9 Hl9 Hm9 HY9 He9 A11 m11 c11 ys11 Hl11 Hm11 HY11 He11

noncomputable def lrunTail7 : Code := dropC 7 (bodyC Try.f5)
set_option maxRecDepth 100000 in
set_option maxHeartbeats 4000000 in
theorem runs_t7 {z0 z3 z4 z13 z14 z15 z16 z17 z18 z19 z20 z21 z22 z23 z24 z25 z26 z27 z28 z29 z30 z31 z32 z33 z34 z35 z36 z37 z38 z39 z40 z41 z42 z43 z44 z45 z46 z47 z48 z49 z50 z51 z52 z53 z54 z55 z56 z57 z58 z59 z60 z61 z62 z63 z64 z65 z66 z67 z68 z69 z70 z71 z72 z73 z74 z75 z76 z77 z78 z79 z80 z81 z82 z83 z84 z85 z86 z87 z88 z89 z90 z91 z92 z93 z94 z95 z96 z97 z98 z99 z100 z101 z102 z103 z104 z105 z106 z107 z108 z109 z110 z111 z112 z113 z114 z115 z116 z117 z118 z119 z120 z121 z122 z123 z124 z125 z126 z127 z128 z129 z130 z131 z132 z133 z134 z135 z136 z137 z138 z139 z140 z141 z142 z143 z144 z145 z146 z147 z148 z149 z150 z151 z152 z153 z154 z155 z156 z157 z158 z159 z160 z161 z162 z163 z164 : Value} (r : TR) (c i : Int) (lo : Nat) (A : Option Addr) (n cc : Nat) (ts : List R) (w : World) (HX : Aside (Ranges w lo A ts)) (h0 : A = none → n = 0 ∧ cc = 0) (hn : Aside (ts.length = n)) (hl : n ≤ 1100) (Her : Aside (errT r c i ts = 0)) (wA : World) (hBA : Below w.heap.size w wA) (hA0 : w.heap.size < wA.heap.size) (q0 : wA.cell? ⟨w.heap.size, 0, none⟩ = some (.int .i64 r.frost)) (q1 : wA.cell? ⟨w.heap.size, 1, none⟩ = some (.int .i64 r.thaw)) (q2 : wA.cell? ⟨w.heap.size, 2, none⟩ = some (.int .i64 r.gain)) (q3 : wA.cell? ⟨w.heap.size, 3, none⟩ = some (.int .i64 r.full)) (q4 : wA.cell? ⟨w.heap.size, 4, none⟩ = some (.int .i64 r.ice)) (q5 : wA.cell? ⟨w.heap.size, 5, none⟩ = some (.int .i64 r.most)) (q6 : wA.cell? ⟨w.heap.size, 6, none⟩ = some (.int .i64 r.melt)) (q7 : wA.cell? ⟨w.heap.size, 7, none⟩ = some (.int .i64 r.rlow)) (q8 : wA.cell? ⟨w.heap.size, 8, none⟩ = some (.int .i64 r.rhigh)) (q9 : wA.cell? ⟨w.heap.size, 9, none⟩ = some (.int .i64 r.pull)) (q10 : wA.cell? ⟨w.heap.size, 10, none⟩ = some (.int .i64 c)) (q11 : wA.cell? ⟨w.heap.size, 11, none⟩ = some (.int .i64 i)) (b5 : Nat) (x5 y5 : Int) (l5 : b5 < wA.heap.size) (c50 : wA.cell? ⟨b5, 0, none⟩ = some (.int .i64 x5)) (c51 : wA.cell? ⟨b5, 1, none⟩ = some (.int .i64 y5)) (Hz5 : Aside (Rep1 (some (x5, y5)) (anyC (thruC r (ts.map pr) (oneC (c, i)))))) (A7 : Option Addr) (n7 c7 : Nat) (xs7 : List R) (Hl7 : Aside (xs7.length = n7)) (Hm7 : Aside (n7 ≤ c7 ∧ c7 ≤ maxLen)) (HR7 : Aside (Ranges wA 0 A7 xs7)) (Hg7 : Aside (∃ G, Rep G (thruC r (ts.map pr) (oneC (c, i))) ∧ xs7 = endsR G 1891)) (A9 : Option Addr) (m9 c9 : Nat) (ys9 : List Int) (Hl9 : Aside (ys9.length = m9)) (Hm9 : Aside (m9 ≤ c9 ∧ c9 ≤ maxLen)) (HY9 : Aside (Ints wA 0 A9 ys9)) (He9 : Aside (ys9 = extS r false ts (c, i))) (A11 : Option Addr) (m11 c11 : Nat) (ys11 : List Int) (Hl11 : Aside (ys11.length = m11)) (Hm11 : Aside (m11 ≤ c11 ∧ c11 ≤ maxLen)) (HY11 : Aside (Ints wA 0 A11 ys11)) (He11 : Aside (ys11 = extS r true ts (c, i))) :
    Code.wp Try.prog lrunTail7 (bodyPost Try.prog Try.f5 fun e w' => e = .returned (.bool true) ∧ Below w.heap.size w w') ⟨List.toArray (z0 :: .slice A n cc :: .pointer (some ⟨w.heap.size, 0, none⟩) :: z3 :: z4 :: .pointer (some ⟨b5, 0, none⟩) :: .int .i64 0 :: .slice A7 n7 c7 :: .int .i64 0 :: .slice A9 m9 c9 :: .int .i64 0 :: .slice A11 m11 c11 :: .int .i64 0 :: z13 :: z14 :: z15 :: z16 :: z17 :: z18 :: z19 :: z20 :: z21 :: z22 :: z23 :: z24 :: z25 :: z26 :: z27 :: z28 :: z29 :: z30 :: z31 :: z32 :: z33 :: z34 :: z35 :: z36 :: z37 :: z38 :: z39 :: z40 :: z41 :: z42 :: z43 :: z44 :: z45 :: z46 :: z47 :: z48 :: z49 :: z50 :: z51 :: z52 :: z53 :: z54 :: z55 :: z56 :: z57 :: z58 :: z59 :: z60 :: z61 :: z62 :: z63 :: z64 :: z65 :: z66 :: z67 :: z68 :: z69 :: z70 :: z71 :: z72 :: z73 :: z74 :: z75 :: z76 :: z77 :: z78 :: z79 :: z80 :: z81 :: z82 :: z83 :: z84 :: z85 :: z86 :: z87 :: z88 :: z89 :: z90 :: z91 :: z92 :: z93 :: z94 :: z95 :: z96 :: z97 :: z98 :: z99 :: z100 :: z101 :: z102 :: z103 :: z104 :: z105 :: z106 :: z107 :: z108 :: z109 :: z110 :: z111 :: z112 :: z113 :: z114 :: z115 :: z116 :: z117 :: z118 :: z119 :: z120 :: z121 :: z122 :: z123 :: z124 :: z125 :: z126 :: z127 :: z128 :: z129 :: z130 :: z131 :: z132 :: z133 :: z134 :: z135 :: z136 :: z137 :: z138 :: z139 :: z140 :: z141 :: z142 :: z143 :: z144 :: z145 :: z146 :: z147 :: z148 :: z149 :: z150 :: z151 :: z152 :: z153 :: z154 :: z155 :: z156 :: z157 :: z158 :: z159 :: z160 :: z161 :: z162 :: z163 :: z164 :: []), []⟩ wA := by
  have hR : lrunTail8 = dropC 1 lrunTail7 := (dropC_add 1 7 _).symm
  refine wp_tail 1 hR ?_
  conv => arg 2; simp only [lrunTail7, bodyC, Try.f5, Option.getD_some, dropC, mkC]
  obtain ⟨hr, hst, hlen, hok⟩ := errT_ok Her.out
  have hF : ∀ W, Calls Try.prog 33 #[.agg #[.int .i64 c, .int .i64 i]] W fun e w' => e = .returned (tabV (setF (fun _ => none) (c, i) (some (0, 0)))) ∧ Below W.heap.size W w' := by
    obtain ⟨c', i', hc, hi, e⟩ := in_nat hr hst
    obtain ⟨rfl, rfl⟩ := Prod.mk.inj e
    exact fun W => refFrom_any c' i' (by omega) (by omega) W
  have hTh := fun W (hb : Below w.heap.size w W) => refThrough_any r hr _ (oneC (c, i)) lo A n cc ts 0 W (one_rep (c, i)) (oneC_in hst) (oneC_bd _) (HX.out.below hb (Nat.le_refl _)) hn (by omega) (by have := hn.out; omega) hok
  rw [show rV r = .agg #[.int .i64 r.frost, .int .i64 r.thaw, .int .i64 r.gain, .int .i64 r.full, .int .i64 r.ice, .int .i64 r.most, .int .i64 r.melt, .int .i64 r.rlow, .int .i64 r.rhigh, .int .i64 r.pull] from rfl] at hTh
  generalize setF (fun _ => none) (c, i) (some (0, 0)) = F0 at hF hTh
  unfold tabV at hF hTh
  clear hr hst hlen hok
  have hsz := hBA.size
  go_upto_region 10 with (fail)
  go_cut [14] (fun v14 wx => ∃ (b14 : Nat) (G : Fl), v14 = .pointer (some ⟨b14, 0, none⟩) ∧ b14 < wx.heap.size ∧ Aside (Tab wx b14 (rawF G)) ∧ Aside (Rep G (thruC r (ts.map pr) (oneC (c, i)))) ∧ Aside (Below wA.heap.size wA wx))
  case first =>
    have hAll : Aside (∀ W, Below wA.heap.size wA W → (Below wA.heap.size wA W ∧ W.cell? ⟨w.heap.size, 0, none⟩ = some (.int .i64 r.frost) ∧ W.cell? ⟨w.heap.size, 1, none⟩ = some (.int .i64 r.thaw) ∧ W.cell? ⟨w.heap.size, 2, none⟩ = some (.int .i64 r.gain) ∧ W.cell? ⟨w.heap.size, 3, none⟩ = some (.int .i64 r.full) ∧ W.cell? ⟨w.heap.size, 4, none⟩ = some (.int .i64 r.ice) ∧ W.cell? ⟨w.heap.size, 5, none⟩ = some (.int .i64 r.most) ∧ W.cell? ⟨w.heap.size, 6, none⟩ = some (.int .i64 r.melt) ∧ W.cell? ⟨w.heap.size, 7, none⟩ = some (.int .i64 r.rlow) ∧ W.cell? ⟨w.heap.size, 8, none⟩ = some (.int .i64 r.rhigh) ∧ W.cell? ⟨w.heap.size, 9, none⟩ = some (.int .i64 r.pull) ∧ W.cell? ⟨w.heap.size, 10, none⟩ = some (.int .i64 c) ∧ W.cell? ⟨w.heap.size, 11, none⟩ = some (.int .i64 i))) := fun W h => ⟨h, (h.cell (p := ⟨w.heap.size, 0, none⟩) hA0).trans q0, (h.cell (p := ⟨w.heap.size, 1, none⟩) hA0).trans q1, (h.cell (p := ⟨w.heap.size, 2, none⟩) hA0).trans q2, (h.cell (p := ⟨w.heap.size, 3, none⟩) hA0).trans q3, (h.cell (p := ⟨w.heap.size, 4, none⟩) hA0).trans q4, (h.cell (p := ⟨w.heap.size, 5, none⟩) hA0).trans q5, (h.cell (p := ⟨w.heap.size, 6, none⟩) hA0).trans q6, (h.cell (p := ⟨w.heap.size, 7, none⟩) hA0).trans q7, (h.cell (p := ⟨w.heap.size, 8, none⟩) hA0).trans q8, (h.cell (p := ⟨w.heap.size, 9, none⟩) hA0).trans q9, (h.cell (p := ⟨w.heap.size, 10, none⟩) hA0).trans q10, (h.cell (p := ⟨w.heap.size, 11, none⟩) hA0).trans q11⟩
    refine wp_region_held_drew (S := fun W => Below wA.heap.size wA W ∧ W.cell? ⟨w.heap.size, 0, none⟩ = some (.int .i64 r.frost) ∧ W.cell? ⟨w.heap.size, 1, none⟩ = some (.int .i64 r.thaw) ∧ W.cell? ⟨w.heap.size, 2, none⟩ = some (.int .i64 r.gain) ∧ W.cell? ⟨w.heap.size, 3, none⟩ = some (.int .i64 r.full) ∧ W.cell? ⟨w.heap.size, 4, none⟩ = some (.int .i64 r.ice) ∧ W.cell? ⟨w.heap.size, 5, none⟩ = some (.int .i64 r.most) ∧ W.cell? ⟨w.heap.size, 6, none⟩ = some (.int .i64 r.melt) ∧ W.cell? ⟨w.heap.size, 7, none⟩ = some (.int .i64 r.rlow) ∧ W.cell? ⟨w.heap.size, 8, none⟩ = some (.int .i64 r.rhigh) ∧ W.cell? ⟨w.heap.size, 9, none⟩ = some (.int .i64 r.pull) ∧ W.cell? ⟨w.heap.size, 10, none⟩ = some (.int .i64 c) ∧ W.cell? ⟨w.heap.size, 11, none⟩ = some (.int .i64 i)) (by kernel_rfl) (hAll.out _ ((Below.refl _ _).drew)) (fun hS0 => ?_)
    refine wpAnyH_take (i := 0) (v := ?_) rfl (by kernel_rfl) (by kernel_rfl) (by kernel_rfl) (fun _ _ _ h => h) (Or.inl ⟨by rfl, ?_⟩) hS0 ?_
    rotate_left
    · (intro W hSw; (try dsimp only at hSw); go_split_ands; go_simp; (try with_reducible rfl))
    (try go_simp)
    refine wpAnyH_take (i := 1) (v := ?_) rfl (by kernel_rfl) (by kernel_rfl) (by kernel_rfl) (fun _ _ _ h => h) (Or.inl ⟨by rfl, ?_⟩) hS0 ?_
    rotate_left
    · (intro W hSw; (try dsimp only at hSw); go_split_ands; go_simp; (try with_reducible rfl))
    (try go_simp)
    refine wpAnyH_take (i := 2) (v := ?_) rfl (by kernel_rfl) (by kernel_rfl) (by kernel_rfl) (fun _ _ _ h => h) (Or.inl ⟨by rfl, ?_⟩) hS0 ?_
    rotate_left
    · (intro W hSw; (try dsimp only at hSw); go_split_ands; go_simp; (try with_reducible rfl))
    (try go_simp)
    refine wpAnyH_take (i := 3) (v := ?_) rfl (by kernel_rfl) (by kernel_rfl) (by kernel_rfl) (fun _ _ _ h => h) (Or.inl ⟨by rfl, ?_⟩) hS0 ?_
    rotate_left
    · (intro W hSw; (try dsimp only at hSw); go_split_ands; go_simp; (try with_reducible rfl))
    (try go_simp)
    refine wpAnyH_take (i := 5) (v := ?_) rfl (by kernel_rfl) (by kernel_rfl) (by kernel_rfl) (fun _ _ _ h => h) (Or.inl ⟨by rfl, ?_⟩) hS0 ?_
    rotate_left
    · (intro W hSw; (try dsimp only at hSw); go_split_ands; go_simp; (try with_reducible rfl))
    (try go_simp)
    refine wpAnyH_ready (rs := [4, 7]) (by kernel_rfl) (by simp) ?_
    refine (AllReadyH.cons rfl (fun K hK => ?_) (AllReadyH.cons rfl (fun K hK => ?_) AllReadyH.nil))
    · skip
      go_simp
      go_wp2_with (go_at_call 33; refine Calls.mono (hF _) ?_; rintro e w4 ⟨rfl, hb4⟩)
      have hTw4 : Below wA.heap.size wA w4 := btS (show Below wA.heap.size wA _ from (by repeat (first | (with_reducible assumption) | exact Below.refl _ _ | (with_reducible refine Below.alloc ?_ (by first | omega | (simp <;> omega)) _) | (with_reducible refine Below.setCell ?_ (by first | omega | (simp <;> omega)) _) | (with_reducible refine Below.drew ?_)))) (Nat.le_refl _) hb4
      have hzw4 := hb4.size
      (try simp only [World.size_alloc, World.size_drew, World.size_setCell] at hzw4)
      refine hK.out _ _ (hAll.out _ hTw4) (fun hS1 => ?_)
      clear hK K
      (try go_simp)
      refine wpAnyH_ready (rs := [6, 7]) (by kernel_rfl) (by simp) ?_
      refine (AllReadyH.cons rfl (fun K hK => ?_) (AllReadyH.cons rfl (fun K hK => ?_) AllReadyH.nil))
      · skip
        go_simp
        go_wp2_with (go_at_call 32; refine Calls.mono (hTh _ (hBA.trans (Below.mono (show Below wA.heap.size wA _ from (by repeat (first | (with_reducible assumption) | exact Below.refl _ _ | (with_reducible refine Below.alloc ?_ (by first | omega | (simp <;> omega)) _) | (with_reducible refine Below.setCell ?_ (by first | omega | (simp <;> omega)) _) | (with_reducible refine Below.drew ?_)))) hBA.size))) ?_; rintro e w6 ⟨G, rfl, hG, hb6⟩)
        have hTw6 : Below wA.heap.size wA w6 := btS (show Below wA.heap.size wA _ from (by repeat (first | (with_reducible assumption) | exact Below.refl _ _ | (with_reducible refine Below.alloc ?_ (by first | omega | (simp <;> omega)) _) | (with_reducible refine Below.setCell ?_ (by first | omega | (simp <;> omega)) _) | (with_reducible refine Below.drew ?_)))) (Nat.le_refl _) hb6
        have hzw6 := hb6.size
        (try simp only [World.size_alloc, World.size_drew, World.size_setCell] at hzw6)
        have HG := Lib.hid hG
        clear hG
        unfold tabV
        refine hK.out _ _ (hAll.out _ hTw6) (fun hS2 => ?_)
        clear hK K
        (try go_simp)
        refine wpAnyH_ready (rs := [7]) (by kernel_rfl) (by simp) ?_
        refine (AllReadyH.cons rfl (fun K hK => ?_) AllReadyH.nil)
        go_simp
        refine hK.out _ _ (hAll.out _ (by repeat (first | (with_reducible assumption) | exact Below.refl _ _ | (with_reducible refine Below.alloc ?_ (by first | omega | (simp <;> omega)) _) | (with_reducible refine Below.setCell ?_ (by first | omega | (simp <;> omega)) _) | (with_reducible refine Below.drew ?_)))) (fun hS3 => ?_)
        clear hK K
        (try go_simp)
        generalize hN : World.alloc _ (.cells Try.zeroCells63 _) = wN
        have T0 : Tab wN w6.heap.size (fun _ => (0, 0)) := by rw [← hN]; exact Tab.zero _ _ (by first | rfl | (simp; done) | (simp; omega)) _
        have V0 : Wri wN w6.heap.size := by rw [← hN]; first | exact Wri.new _ _ _ | (have := Wri.new (World.drew w6) Try.zeroCells63 63; simpa using this)
        have lT : w6.heap.size < wN.heap.size := by rw [← hN]; simp
        have hTwN : Below wA.heap.size wA wN := by rw [← hN]; exact (by repeat (first | (with_reducible assumption) | exact Below.refl _ _ | (with_reducible refine Below.alloc ?_ (by first | omega | (simp <;> omega)) _) | (with_reducible refine Below.setCell ?_ (by first | omega | (simp <;> omega)) _) | (with_reducible refine Below.drew ?_)))
        have hzwN := hTwN.size
        clear hN
        refine wpAnyH_ready (rs := [8]) (by kernel_rfl) (by simp) ?_
        refine (AllReadyH.cons rfl (fun K hK => ?_) AllReadyH.nil)
        refine step_store_tab rfl _ _ (by rfl) w6.heap.size (rawF G) (by rfl) (by rfl) _ T0 V0 ?_
        have hTwS : Below wA.heap.size wA (putT wN w6.heap.size (rawF G)) := Below.grown (show Below wA.heap.size wA wN from (by repeat (first | (with_reducible assumption) | exact Below.refl _ _ | (with_reducible refine Below.alloc ?_ (by first | omega | (simp <;> omega)) _) | (with_reducible refine Below.setCell ?_ (by first | omega | (simp <;> omega)) _) | (with_reducible refine Below.drew ?_)))) (putT_grown _ _ _) (by omega) (fun k e => by cases e; first | omega | (simp; omega))
        have TS := putT_tab T0 V0 (rawF G)
        generalize hwS : putT wN w6.heap.size (rawF G) = wS at TS hTwS ⊢
        have hzwS : wS.heap.size = wN.heap.size := by rw [← hwS]; exact putT_size _ _ _
        clear hwS
        go_simp
        refine hK.out _ _ (hAll.out _ hTwS) (fun hS4 => ?_)
        clear hK K
        (try go_simp)
        refine wpAnyH_done (by kernel_rfl) ?_ _
        (try go_simp)
        go_wp2_with fail
        go_meet
        exact ⟨_, G, rfl, by first | omega | (simp; omega), by first | exact TS | exact TS.below (Below.drew (Below.refl _ _)) (by omega), HG, (show Below _ _ _ from (by repeat (first | (with_reducible assumption) | exact Below.refl _ _ | (with_reducible refine Below.alloc ?_ (by first | omega | (simp <;> omega)) _) | (with_reducible refine Below.setCell ?_ (by first | omega | (simp <;> omega)) _) | (with_reducible refine Below.drew ?_))))⟩
      · skip
        go_simp
        refine hK.out _ _ (hAll.out _ (by repeat (first | (with_reducible assumption) | exact Below.refl _ _ | (with_reducible refine Below.alloc ?_ (by first | omega | (simp <;> omega)) _) | (with_reducible refine Below.setCell ?_ (by first | omega | (simp <;> omega)) _) | (with_reducible refine Below.drew ?_)))) (fun hS5 => ?_)
        clear hK K
        (try go_simp)
        generalize hN : World.alloc _ (.cells Try.zeroCells63 _) = wN
        have T0 : Tab wN w4.heap.size (fun _ => (0, 0)) := by rw [← hN]; exact Tab.zero _ _ (by first | rfl | (simp; done) | (simp; omega)) _
        have V0 : Wri wN w4.heap.size := by rw [← hN]; first | exact Wri.new _ _ _ | (have := Wri.new (World.drew w4) Try.zeroCells63 63; simpa using this)
        have lT : w4.heap.size < wN.heap.size := by rw [← hN]; simp
        have hTwN : Below wA.heap.size wA wN := by rw [← hN]; exact (by repeat (first | (with_reducible assumption) | exact Below.refl _ _ | (with_reducible refine Below.alloc ?_ (by first | omega | (simp <;> omega)) _) | (with_reducible refine Below.setCell ?_ (by first | omega | (simp <;> omega)) _) | (with_reducible refine Below.drew ?_)))
        have hzwN := hTwN.size
        clear hN
        refine wpAnyH_ready (rs := [6]) (by kernel_rfl) (by simp) ?_
        refine (AllReadyH.cons rfl (fun K hK => ?_) AllReadyH.nil)
        go_simp
        go_wp2_with (go_at_call 32; refine Calls.mono (hTh _ (hBA.trans (Below.mono (show Below wA.heap.size wA _ from (by repeat (first | (with_reducible assumption) | exact Below.refl _ _ | (with_reducible refine Below.alloc ?_ (by first | omega | (simp <;> omega)) _) | (with_reducible refine Below.setCell ?_ (by first | omega | (simp <;> omega)) _) | (with_reducible refine Below.drew ?_)))) hBA.size))) ?_; rintro e w6 ⟨G, rfl, hG, hb6⟩)
        have hTw6 : Below wA.heap.size wA w6 := btS (show Below wA.heap.size wA _ from (by repeat (first | (with_reducible assumption) | exact Below.refl _ _ | (with_reducible refine Below.alloc ?_ (by first | omega | (simp <;> omega)) _) | (with_reducible refine Below.setCell ?_ (by first | omega | (simp <;> omega)) _) | (with_reducible refine Below.drew ?_)))) (Nat.le_refl _) hb6
        have hzw6 := hb6.size
        (try simp only [World.size_alloc, World.size_drew, World.size_setCell] at hzw6)
        first | replace T0 := T0.below hb6 (by first | omega | (simp; omega)) | replace T0 := T0.below (below_undrew hb6) (by first | omega | (simp; omega))
        first | replace V0 := V0.below hb6 (by first | omega | (simp; omega)) | replace V0 := V0.below (below_undrew hb6) (by first | omega | (simp; omega))
        replace lT := Nat.lt_of_lt_of_le lT hzw6
        have HG := Lib.hid hG
        clear hG
        unfold tabV
        refine hK.out _ _ (hAll.out _ hTw6) (fun hS6 => ?_)
        clear hK K
        (try go_simp)
        refine wpAnyH_ready (rs := [8]) (by kernel_rfl) (by simp) ?_
        refine (AllReadyH.cons rfl (fun K hK => ?_) AllReadyH.nil)
        refine step_store_tab rfl _ _ (by rfl) w4.heap.size (rawF G) (by rfl) (by rfl) _ T0 V0 ?_
        have hTwS : Below wA.heap.size wA (putT w6 w4.heap.size (rawF G)) := Below.grown (show Below wA.heap.size wA w6 from (by repeat (first | (with_reducible assumption) | exact Below.refl _ _ | (with_reducible refine Below.alloc ?_ (by first | omega | (simp <;> omega)) _) | (with_reducible refine Below.setCell ?_ (by first | omega | (simp <;> omega)) _) | (with_reducible refine Below.drew ?_)))) (putT_grown _ _ _) (by omega) (fun k e => by cases e; first | omega | (simp; omega))
        have TS := putT_tab T0 V0 (rawF G)
        generalize hwS : putT w6 w4.heap.size (rawF G) = wS at TS hTwS ⊢
        have hzwS : wS.heap.size = w6.heap.size := by rw [← hwS]; exact putT_size _ _ _
        clear hwS
        go_simp
        refine hK.out _ _ (hAll.out _ hTwS) (fun hS7 => ?_)
        clear hK K
        (try go_simp)
        refine wpAnyH_done (by kernel_rfl) ?_ _
        (try go_simp)
        go_wp2_with fail
        go_meet
        exact ⟨_, G, rfl, by first | omega | (simp; omega), by first | exact TS | exact TS.below (Below.drew (Below.refl _ _)) (by omega), HG, (show Below _ _ _ from (by repeat (first | (with_reducible assumption) | exact Below.refl _ _ | (with_reducible refine Below.alloc ?_ (by first | omega | (simp <;> omega)) _) | (with_reducible refine Below.setCell ?_ (by first | omega | (simp <;> omega)) _) | (with_reducible refine Below.drew ?_))))⟩
    · skip
      go_simp
      refine hK.out _ _ (hAll.out _ (by repeat (first | (with_reducible assumption) | exact Below.refl _ _ | (with_reducible refine Below.alloc ?_ (by first | omega | (simp <;> omega)) _) | (with_reducible refine Below.setCell ?_ (by first | omega | (simp <;> omega)) _) | (with_reducible refine Below.drew ?_)))) (fun hS8 => ?_)
      clear hK K
      (try go_simp)
      generalize hN : World.alloc _ (.cells Try.zeroCells63 _) = wN
      have T0 : Tab wN wA.heap.size (fun _ => (0, 0)) := by rw [← hN]; exact Tab.zero _ _ (by first | rfl | (simp; done) | (simp; omega)) _
      have V0 : Wri wN wA.heap.size := by rw [← hN]; first | exact Wri.new _ _ _ | (have := Wri.new (World.drew wA) Try.zeroCells63 63; simpa using this)
      have lT : wA.heap.size < wN.heap.size := by rw [← hN]; simp
      have hTwN : Below wA.heap.size wA wN := by rw [← hN]; exact (by repeat (first | (with_reducible assumption) | exact Below.refl _ _ | (with_reducible refine Below.alloc ?_ (by first | omega | (simp <;> omega)) _) | (with_reducible refine Below.setCell ?_ (by first | omega | (simp <;> omega)) _) | (with_reducible refine Below.drew ?_)))
      have hzwN := hTwN.size
      clear hN
      refine wpAnyH_ready (rs := [4]) (by kernel_rfl) (by simp) ?_
      refine (AllReadyH.cons rfl (fun K hK => ?_) AllReadyH.nil)
      go_simp
      go_wp2_with (go_at_call 33; refine Calls.mono (hF _) ?_; rintro e w4 ⟨rfl, hb4⟩)
      have hTw4 : Below wA.heap.size wA w4 := btS (show Below wA.heap.size wA _ from (by repeat (first | (with_reducible assumption) | exact Below.refl _ _ | (with_reducible refine Below.alloc ?_ (by first | omega | (simp <;> omega)) _) | (with_reducible refine Below.setCell ?_ (by first | omega | (simp <;> omega)) _) | (with_reducible refine Below.drew ?_)))) (Nat.le_refl _) hb4
      have hzw4 := hb4.size
      (try simp only [World.size_alloc, World.size_drew, World.size_setCell] at hzw4)
      first | replace T0 := T0.below hb4 (by first | omega | (simp; omega)) | replace T0 := T0.below (below_undrew hb4) (by first | omega | (simp; omega))
      first | replace V0 := V0.below hb4 (by first | omega | (simp; omega)) | replace V0 := V0.below (below_undrew hb4) (by first | omega | (simp; omega))
      replace lT := Nat.lt_of_lt_of_le lT hzw4
      refine hK.out _ _ (hAll.out _ hTw4) (fun hS9 => ?_)
      clear hK K
      (try go_simp)
      refine wpAnyH_ready (rs := [6]) (by kernel_rfl) (by simp) ?_
      refine (AllReadyH.cons rfl (fun K hK => ?_) AllReadyH.nil)
      go_simp
      go_wp2_with (go_at_call 32; refine Calls.mono (hTh _ (hBA.trans (Below.mono (show Below wA.heap.size wA _ from (by repeat (first | (with_reducible assumption) | exact Below.refl _ _ | (with_reducible refine Below.alloc ?_ (by first | omega | (simp <;> omega)) _) | (with_reducible refine Below.setCell ?_ (by first | omega | (simp <;> omega)) _) | (with_reducible refine Below.drew ?_)))) hBA.size))) ?_; rintro e w6 ⟨G, rfl, hG, hb6⟩)
      have hTw6 : Below wA.heap.size wA w6 := btS (show Below wA.heap.size wA _ from (by repeat (first | (with_reducible assumption) | exact Below.refl _ _ | (with_reducible refine Below.alloc ?_ (by first | omega | (simp <;> omega)) _) | (with_reducible refine Below.setCell ?_ (by first | omega | (simp <;> omega)) _) | (with_reducible refine Below.drew ?_)))) (Nat.le_refl _) hb6
      have hzw6 := hb6.size
      (try simp only [World.size_alloc, World.size_drew, World.size_setCell] at hzw6)
      first | replace T0 := T0.below hb6 (by first | omega | (simp; omega)) | replace T0 := T0.below (below_undrew hb6) (by first | omega | (simp; omega))
      first | replace V0 := V0.below hb6 (by first | omega | (simp; omega)) | replace V0 := V0.below (below_undrew hb6) (by first | omega | (simp; omega))
      replace lT := Nat.lt_of_lt_of_le lT hzw6
      have HG := Lib.hid hG
      clear hG
      unfold tabV
      refine hK.out _ _ (hAll.out _ hTw6) (fun hS10 => ?_)
      clear hK K
      (try go_simp)
      refine wpAnyH_ready (rs := [8]) (by kernel_rfl) (by simp) ?_
      refine (AllReadyH.cons rfl (fun K hK => ?_) AllReadyH.nil)
      refine step_store_tab rfl _ _ (by rfl) wA.heap.size (rawF G) (by rfl) (by rfl) _ T0 V0 ?_
      have hTwS : Below wA.heap.size wA (putT w6 wA.heap.size (rawF G)) := Below.grown (show Below wA.heap.size wA w6 from (by repeat (first | (with_reducible assumption) | exact Below.refl _ _ | (with_reducible refine Below.alloc ?_ (by first | omega | (simp <;> omega)) _) | (with_reducible refine Below.setCell ?_ (by first | omega | (simp <;> omega)) _) | (with_reducible refine Below.drew ?_)))) (putT_grown _ _ _) (by omega) (fun k e => by cases e; first | omega | (simp; omega))
      have TS := putT_tab T0 V0 (rawF G)
      generalize hwS : putT w6 wA.heap.size (rawF G) = wS at TS hTwS ⊢
      have hzwS : wS.heap.size = w6.heap.size := by rw [← hwS]; exact putT_size _ _ _
      clear hwS
      go_simp
      refine hK.out _ _ (hAll.out _ hTwS) (fun hS11 => ?_)
      clear hK K
      (try go_simp)
      refine wpAnyH_done (by kernel_rfl) ?_ _
      (try go_simp)
      go_wp2_with fail
      go_meet
      exact ⟨_, G, rfl, by first | omega | (simp; omega), by first | exact TS | exact TS.below (Below.drew (Below.refl _ _)) (by omega), HG, (show Below _ _ _ from (by repeat (first | (with_reducible assumption) | exact Below.refl _ _ | (with_reducible refine Below.alloc ?_ (by first | omega | (simp <;> omega)) _) | (with_reducible refine Below.setCell ?_ (by first | omega | (simp <;> omega)) _) | (with_reducible refine Below.drew ?_))))⟩
  case rest =>
    obtain ⟨b14, G, rfl, l14, HT14, HG, hT⟩ := hcut
    obtain ⟨wB, hWB⟩ : ∃ X, X = wc := ⟨_, rfl⟩
    subst hWB
    have hT' := hT.out
    have hBB : Below w.heap.size w wB := btS hBA (Nat.le_refl _) hT'
    replace c50 := (hT'.cell (p := ⟨b5, 0, none⟩) (by show b5 < _; omega)).trans c50
    replace c51 := (hT'.cell (p := ⟨b5, 1, none⟩) (by show b5 < _; omega)).trans c51
    replace l5 := Nat.lt_of_lt_of_le l5 hT'.size
    replace q0 := (hT'.cell (p := ⟨w.heap.size, 0, none⟩) (by show w.heap.size < _; omega)).trans q0
    replace q1 := (hT'.cell (p := ⟨w.heap.size, 1, none⟩) (by show w.heap.size < _; omega)).trans q1
    replace q2 := (hT'.cell (p := ⟨w.heap.size, 2, none⟩) (by show w.heap.size < _; omega)).trans q2
    replace q3 := (hT'.cell (p := ⟨w.heap.size, 3, none⟩) (by show w.heap.size < _; omega)).trans q3
    replace q4 := (hT'.cell (p := ⟨w.heap.size, 4, none⟩) (by show w.heap.size < _; omega)).trans q4
    replace q5 := (hT'.cell (p := ⟨w.heap.size, 5, none⟩) (by show w.heap.size < _; omega)).trans q5
    replace q6 := (hT'.cell (p := ⟨w.heap.size, 6, none⟩) (by show w.heap.size < _; omega)).trans q6
    replace q7 := (hT'.cell (p := ⟨w.heap.size, 7, none⟩) (by show w.heap.size < _; omega)).trans q7
    replace q8 := (hT'.cell (p := ⟨w.heap.size, 8, none⟩) (by show w.heap.size < _; omega)).trans q8
    replace q9 := (hT'.cell (p := ⟨w.heap.size, 9, none⟩) (by show w.heap.size < _; omega)).trans q9
    replace q10 := (hT'.cell (p := ⟨w.heap.size, 10, none⟩) (by show w.heap.size < _; omega)).trans q10
    replace q11 := (hT'.cell (p := ⟨w.heap.size, 11, none⟩) (by show w.heap.size < _; omega)).trans q11
    replace HR7 := HR7.out.below hT' (Nat.le_refl _)
    replace HY9 := HY9.out.below hT' (Nat.le_refl _)
    replace HY11 := HY11.out.below hT' (Nat.le_refl _)
    replace hA0 := Nat.lt_of_lt_of_le hA0 hT'.size
    go_wp2_with fail
    exact runs_t8 r c i lo A n cc ts w HX h0 hn hl Her wB hBB hA0 q0 q1 q2 q3 q4 q5 q6 q7 q8 q9 q10 q11 b5 x5 y5 l5 c50 c51 Hz5 A7 n7 c7 xs7 Hl7 Hm7 HR7 Hg7 A9 m9 c9 ys9 Hl9 Hm9 HY9 He9 A11 m11 c11 ys11 Hl11 Hm11 HY11 He11 b14 G l14 HT14 HG

noncomputable def lrunTail6 : Code := dropC 6 (bodyC Try.f5)
set_option maxRecDepth 100000 in
set_option maxHeartbeats 4000000 in
theorem runs_t6 {z0 z3 z4 z13 z14 z15 z16 z17 z18 z19 z20 z21 z22 z23 z24 z25 z26 z27 z28 z29 z30 z31 z32 z33 z34 z35 z36 z37 z38 z39 z40 z41 z42 z43 z44 z45 z46 z47 z48 z49 z50 z51 z52 z53 z54 z55 z56 z57 z58 z59 z60 z61 z62 z63 z64 z65 z66 z67 z68 z69 z70 z71 z72 z73 z74 z75 z76 z77 z78 z79 z80 z81 z82 z83 z84 z85 z86 z87 z88 z89 z90 z91 z92 z93 z94 z95 z96 z97 z98 z99 z100 z101 z102 z103 z104 z105 z106 z107 z108 z109 z110 z111 z112 z113 z114 z115 z116 z117 z118 z119 z120 z121 z122 z123 z124 z125 z126 z127 z128 z129 z130 z131 z132 z133 z134 z135 z136 z137 z138 z139 z140 z141 z142 z143 z144 z145 z146 z147 z148 z149 z150 z151 z152 z153 z154 z155 z156 z157 z158 z159 z160 z161 z162 z163 z164 : Value} (r : TR) (c i : Int) (lo : Nat) (A : Option Addr) (n cc : Nat) (ts : List R) (er : Int) (w : World) (HX : Aside (Ranges w lo A ts)) (h0 : A = none → n = 0 ∧ cc = 0) (hn : Aside (ts.length = n)) (hl : n ≤ 1100) (Her : Aside (errT r c i ts = er)) (wA : World) (hBA : Below w.heap.size w wA) (hA0 : w.heap.size < wA.heap.size) (q0 : wA.cell? ⟨w.heap.size, 0, none⟩ = some (.int .i64 r.frost)) (q1 : wA.cell? ⟨w.heap.size, 1, none⟩ = some (.int .i64 r.thaw)) (q2 : wA.cell? ⟨w.heap.size, 2, none⟩ = some (.int .i64 r.gain)) (q3 : wA.cell? ⟨w.heap.size, 3, none⟩ = some (.int .i64 r.full)) (q4 : wA.cell? ⟨w.heap.size, 4, none⟩ = some (.int .i64 r.ice)) (q5 : wA.cell? ⟨w.heap.size, 5, none⟩ = some (.int .i64 r.most)) (q6 : wA.cell? ⟨w.heap.size, 6, none⟩ = some (.int .i64 r.melt)) (q7 : wA.cell? ⟨w.heap.size, 7, none⟩ = some (.int .i64 r.rlow)) (q8 : wA.cell? ⟨w.heap.size, 8, none⟩ = some (.int .i64 r.rhigh)) (q9 : wA.cell? ⟨w.heap.size, 9, none⟩ = some (.int .i64 r.pull)) (q10 : wA.cell? ⟨w.heap.size, 10, none⟩ = some (.int .i64 c)) (q11 : wA.cell? ⟨w.heap.size, 11, none⟩ = some (.int .i64 i)) (b5 : Nat) (x5 y5 : Int) (l5 : b5 < wA.heap.size) (c50 : wA.cell? ⟨b5, 0, none⟩ = some (.int .i64 x5)) (c51 : wA.cell? ⟨b5, 1, none⟩ = some (.int .i64 y5)) (Hn5 : Aside (er ≠ 0 → x5 = 0 ∧ y5 = 0)) (Hz5 : Aside (er = 0 → Rep1 (some (x5, y5)) (anyC (thruC r (ts.map pr) (oneC (c, i)))))) (A7 : Option Addr) (n7 c7 : Nat) (xs7 : List R) (Hl7 : Aside (xs7.length = n7)) (Hm7 : Aside (n7 ≤ c7 ∧ c7 ≤ maxLen)) (HR7 : Aside (Ranges wA 0 A7 xs7)) (He7 : Aside (er ≠ 0 → xs7 = [])) (Hg7 : Aside (er = 0 → ∃ G, Rep G (thruC r (ts.map pr) (oneC (c, i))) ∧ xs7 = endsR G 1891)) (A9 : Option Addr) (m9 c9 : Nat) (ys9 : List Int) (Hl9 : Aside (ys9.length = m9)) (Hm9 : Aside (m9 ≤ c9 ∧ c9 ≤ maxLen)) (HY9 : Aside (Ints wA 0 A9 ys9)) (He9 : Aside (ys9 = if er = 0 then extS r false ts (c, i) else [])) (A11 : Option Addr) (m11 c11 : Nat) (ys11 : List Int) (Hl11 : Aside (ys11.length = m11)) (Hm11 : Aside (m11 ≤ c11 ∧ c11 ≤ maxLen)) (HY11 : Aside (Ints wA 0 A11 ys11)) (He11 : Aside (ys11 = if er = 0 then extS r true ts (c, i) else [])) :
    Code.wp Try.prog lrunTail6 (bodyPost Try.prog Try.f5 fun e w' => e = .returned (.bool true) ∧ Below w.heap.size w w') ⟨List.toArray (z0 :: .slice A n cc :: .pointer (some ⟨w.heap.size, 0, none⟩) :: z3 :: z4 :: .pointer (some ⟨b5, 0, none⟩) :: .int .i64 er :: .slice A7 n7 c7 :: .int .i64 er :: .slice A9 m9 c9 :: .int .i64 er :: .slice A11 m11 c11 :: .int .i64 er :: z13 :: z14 :: z15 :: z16 :: z17 :: z18 :: z19 :: z20 :: z21 :: z22 :: z23 :: z24 :: z25 :: z26 :: z27 :: z28 :: z29 :: z30 :: z31 :: z32 :: z33 :: z34 :: z35 :: z36 :: z37 :: z38 :: z39 :: z40 :: z41 :: z42 :: z43 :: z44 :: z45 :: z46 :: z47 :: z48 :: z49 :: z50 :: z51 :: z52 :: z53 :: z54 :: z55 :: z56 :: z57 :: z58 :: z59 :: z60 :: z61 :: z62 :: z63 :: z64 :: z65 :: z66 :: z67 :: z68 :: z69 :: z70 :: z71 :: z72 :: z73 :: z74 :: z75 :: z76 :: z77 :: z78 :: z79 :: z80 :: z81 :: z82 :: z83 :: z84 :: z85 :: z86 :: z87 :: z88 :: z89 :: z90 :: z91 :: z92 :: z93 :: z94 :: z95 :: z96 :: z97 :: z98 :: z99 :: z100 :: z101 :: z102 :: z103 :: z104 :: z105 :: z106 :: z107 :: z108 :: z109 :: z110 :: z111 :: z112 :: z113 :: z114 :: z115 :: z116 :: z117 :: z118 :: z119 :: z120 :: z121 :: z122 :: z123 :: z124 :: z125 :: z126 :: z127 :: z128 :: z129 :: z130 :: z131 :: z132 :: z133 :: z134 :: z135 :: z136 :: z137 :: z138 :: z139 :: z140 :: z141 :: z142 :: z143 :: z144 :: z145 :: z146 :: z147 :: z148 :: z149 :: z150 :: z151 :: z152 :: z153 :: z154 :: z155 :: z156 :: z157 :: z158 :: z159 :: z160 :: z161 :: z162 :: z163 :: z164 :: []), []⟩ wA := by
  have hR : lrunTail7 = dropC 1 lrunTail6 := (dropC_add 1 6 _).symm
  refine wp_tail 1 hR ?_
  conv => arg 2; simp only [lrunTail6, bodyC, Try.f5, Option.getD_some, dropC, mkC]
  have hkn := fun (W : World) => known_any W
  have hrc := fun W (hb : Below w.heap.size w W) => refCheck_any r c i lo A n cc ts W (HX.out.below hb (Nat.le_refl _)) hn (by unfold maxLen; omega)
  rw [Her.out, show rV r = .agg #[.int .i64 r.frost, .int .i64 r.thaw, .int .i64 r.gain, .int .i64 r.full, .int .i64 r.ice, .int .i64 r.most, .int .i64 r.melt, .int .i64 r.rlow, .int .i64 r.rhigh, .int .i64 r.pull] from rfl] at hrc
  have hsz := hBA.size
  by_cases he : er = 0
  · subst he
    have Hz5z := Lib.hid (Hz5.out rfl)
    have Hg7z := Lib.hid (Hg7.out rfl)
    have He9z : Aside (ys9 = extS r false ts (c, i)) := by have := He9.out; rwa [if_pos rfl] at this
    have He11z : Aside (ys11 = extS r true ts (c, i)) := by have := He11.out; rwa [if_pos rfl] at this
    go_wp2_with fail
    refine Calls.mono (hrc _ hBA) ?_
    rintro e wD ⟨rfl, hbD⟩
    replace c50 := (hbD.cell (p := ⟨b5, 0, none⟩) (by show b5 < _; omega)).trans c50
    replace c51 := (hbD.cell (p := ⟨b5, 1, none⟩) (by show b5 < _; omega)).trans c51
    replace l5 := Nat.lt_of_lt_of_le l5 hbD.size
    replace q0 := (hbD.cell (p := ⟨w.heap.size, 0, none⟩) (by show w.heap.size < _; omega)).trans q0
    replace q1 := (hbD.cell (p := ⟨w.heap.size, 1, none⟩) (by show w.heap.size < _; omega)).trans q1
    replace q2 := (hbD.cell (p := ⟨w.heap.size, 2, none⟩) (by show w.heap.size < _; omega)).trans q2
    replace q3 := (hbD.cell (p := ⟨w.heap.size, 3, none⟩) (by show w.heap.size < _; omega)).trans q3
    replace q4 := (hbD.cell (p := ⟨w.heap.size, 4, none⟩) (by show w.heap.size < _; omega)).trans q4
    replace q5 := (hbD.cell (p := ⟨w.heap.size, 5, none⟩) (by show w.heap.size < _; omega)).trans q5
    replace q6 := (hbD.cell (p := ⟨w.heap.size, 6, none⟩) (by show w.heap.size < _; omega)).trans q6
    replace q7 := (hbD.cell (p := ⟨w.heap.size, 7, none⟩) (by show w.heap.size < _; omega)).trans q7
    replace q8 := (hbD.cell (p := ⟨w.heap.size, 8, none⟩) (by show w.heap.size < _; omega)).trans q8
    replace q9 := (hbD.cell (p := ⟨w.heap.size, 9, none⟩) (by show w.heap.size < _; omega)).trans q9
    replace q10 := (hbD.cell (p := ⟨w.heap.size, 10, none⟩) (by show w.heap.size < _; omega)).trans q10
    replace q11 := (hbD.cell (p := ⟨w.heap.size, 11, none⟩) (by show w.heap.size < _; omega)).trans q11
    replace HR7 := HR7.out.below hbD (Nat.le_refl _)
    replace HY9 := HY9.out.below hbD (Nat.le_refl _)
    replace HY11 := HY11.out.below hbD (Nat.le_refl _)
    replace hA0 := Nat.lt_of_lt_of_le hA0 hbD.size
    have hBD : Below w.heap.size w wD := btS hBA (Nat.le_refl _) hbD
    go_wp2_with fail
    exact runs_t7 r c i lo A n cc ts w HX h0 hn hl Her wD hBD hA0 q0 q1 q2 q3 q4 q5 q6 q7 q8 q9 q10 q11 b5 x5 y5 l5 c50 c51 Hz5z A7 n7 c7 xs7 Hl7 Hm7 HR7 Hg7z A9 m9 c9 ys9 Hl9 Hm9 HY9 He9z A11 m11 c11 ys11 Hl11 Hm11 HY11 He11z
  · have he' : (er == 0) = false := by simpa using he
    obtain ⟨rfl, rfl⟩ := Hn5.out he
    have h7 := He7.out he
    have h9 := He9.out
    have h11 := He11.out
    rw [if_neg he] at h9 h11
    obtain rfl : n7 = 0 := by rw [← Hl7.out, h7]; rfl
    obtain rfl : m9 = 0 := by rw [← Hl9.out, h9]; rfl
    obtain rfl : m11 = 0 := by rw [← Hl11.out, h11]; rfl
    clear h7 h9 h11
    go_wp2_with fail
    refine Calls.mono (hrc _ hBA) ?_
    rintro e wD ⟨rfl, hbD⟩
    have hzD := hbD.size
    replace c50 := (hbD.cell (p := ⟨b5, 0, none⟩) l5).trans c50
    replace c51 := (hbD.cell (p := ⟨b5, 1, none⟩) l5).trans c51
    go_wp2_with fail
    refine (hkn _).mono ?_
    rintro e wK ⟨rfl, hbK⟩
    go_wp2
    go_ret
    exact ⟨rfl, btS (btS hBA (Nat.le_refl _) hbD) (Nat.le_refl _) hbK⟩

noncomputable def lrunTail5 : Code := dropC 5 (bodyC Try.f5)
set_option maxRecDepth 100000 in
set_option maxHeartbeats 4000000 in
theorem runs_t5 {z0 z3 z4 z11 z12 z13 z14 z15 z16 z17 z18 z19 z20 z21 z22 z23 z24 z25 z26 z27 z28 z29 z30 z31 z32 z33 z34 z35 z36 z37 z38 z39 z40 z41 z42 z43 z44 z45 z46 z47 z48 z49 z50 z51 z52 z53 z54 z55 z56 z57 z58 z59 z60 z61 z62 z63 z64 z65 z66 z67 z68 z69 z70 z71 z72 z73 z74 z75 z76 z77 z78 z79 z80 z81 z82 z83 z84 z85 z86 z87 z88 z89 z90 z91 z92 z93 z94 z95 z96 z97 z98 z99 z100 z101 z102 z103 z104 z105 z106 z107 z108 z109 z110 z111 z112 z113 z114 z115 z116 z117 z118 z119 z120 z121 z122 z123 z124 z125 z126 z127 z128 z129 z130 z131 z132 z133 z134 z135 z136 z137 z138 z139 z140 z141 z142 z143 z144 z145 z146 z147 z148 z149 z150 z151 z152 z153 z154 z155 z156 z157 z158 z159 z160 z161 z162 z163 z164 : Value} (r : TR) (c i : Int) (lo : Nat) (A : Option Addr) (n cc : Nat) (ts : List R) (er : Int) (w : World) (HX : Aside (Ranges w lo A ts)) (h0 : A = none → n = 0 ∧ cc = 0) (hn : Aside (ts.length = n)) (hl : n ≤ 1100) (Her : Aside (errT r c i ts = er)) (wA : World) (hBA : Below w.heap.size w wA) (hA0 : w.heap.size < wA.heap.size) (q0 : wA.cell? ⟨w.heap.size, 0, none⟩ = some (.int .i64 r.frost)) (q1 : wA.cell? ⟨w.heap.size, 1, none⟩ = some (.int .i64 r.thaw)) (q2 : wA.cell? ⟨w.heap.size, 2, none⟩ = some (.int .i64 r.gain)) (q3 : wA.cell? ⟨w.heap.size, 3, none⟩ = some (.int .i64 r.full)) (q4 : wA.cell? ⟨w.heap.size, 4, none⟩ = some (.int .i64 r.ice)) (q5 : wA.cell? ⟨w.heap.size, 5, none⟩ = some (.int .i64 r.most)) (q6 : wA.cell? ⟨w.heap.size, 6, none⟩ = some (.int .i64 r.melt)) (q7 : wA.cell? ⟨w.heap.size, 7, none⟩ = some (.int .i64 r.rlow)) (q8 : wA.cell? ⟨w.heap.size, 8, none⟩ = some (.int .i64 r.rhigh)) (q9 : wA.cell? ⟨w.heap.size, 9, none⟩ = some (.int .i64 r.pull)) (q10 : wA.cell? ⟨w.heap.size, 10, none⟩ = some (.int .i64 c)) (q11 : wA.cell? ⟨w.heap.size, 11, none⟩ = some (.int .i64 i)) (b5 : Nat) (x5 y5 : Int) (l5 : b5 < wA.heap.size) (c50 : wA.cell? ⟨b5, 0, none⟩ = some (.int .i64 x5)) (c51 : wA.cell? ⟨b5, 1, none⟩ = some (.int .i64 y5)) (Hn5 : Aside (er ≠ 0 → x5 = 0 ∧ y5 = 0)) (Hz5 : Aside (er = 0 → Rep1 (some (x5, y5)) (anyC (thruC r (ts.map pr) (oneC (c, i)))))) (A7 : Option Addr) (n7 c7 : Nat) (xs7 : List R) (Hl7 : Aside (xs7.length = n7)) (Hm7 : Aside (n7 ≤ c7 ∧ c7 ≤ maxLen)) (HR7 : Aside (Ranges wA 0 A7 xs7)) (He7 : Aside (er ≠ 0 → xs7 = [])) (Hg7 : Aside (er = 0 → ∃ G, Rep G (thruC r (ts.map pr) (oneC (c, i))) ∧ xs7 = endsR G 1891)) (A9 : Option Addr) (m9 c9 : Nat) (ys9 : List Int) (Hl9 : Aside (ys9.length = m9)) (Hm9 : Aside (m9 ≤ c9 ∧ c9 ≤ maxLen)) (HY9 : Aside (Ints wA 0 A9 ys9)) (He9 : Aside (ys9 = if er = 0 then extS r false ts (c, i) else [])) :
    Code.wp Try.prog lrunTail5 (bodyPost Try.prog Try.f5 fun e w' => e = .returned (.bool true) ∧ Below w.heap.size w w') ⟨List.toArray (z0 :: .slice A n cc :: .pointer (some ⟨w.heap.size, 0, none⟩) :: z3 :: z4 :: .pointer (some ⟨b5, 0, none⟩) :: .int .i64 er :: .slice A7 n7 c7 :: .int .i64 er :: .slice A9 m9 c9 :: .int .i64 er :: z11 :: z12 :: z13 :: z14 :: z15 :: z16 :: z17 :: z18 :: z19 :: z20 :: z21 :: z22 :: z23 :: z24 :: z25 :: z26 :: z27 :: z28 :: z29 :: z30 :: z31 :: z32 :: z33 :: z34 :: z35 :: z36 :: z37 :: z38 :: z39 :: z40 :: z41 :: z42 :: z43 :: z44 :: z45 :: z46 :: z47 :: z48 :: z49 :: z50 :: z51 :: z52 :: z53 :: z54 :: z55 :: z56 :: z57 :: z58 :: z59 :: z60 :: z61 :: z62 :: z63 :: z64 :: z65 :: z66 :: z67 :: z68 :: z69 :: z70 :: z71 :: z72 :: z73 :: z74 :: z75 :: z76 :: z77 :: z78 :: z79 :: z80 :: z81 :: z82 :: z83 :: z84 :: z85 :: z86 :: z87 :: z88 :: z89 :: z90 :: z91 :: z92 :: z93 :: z94 :: z95 :: z96 :: z97 :: z98 :: z99 :: z100 :: z101 :: z102 :: z103 :: z104 :: z105 :: z106 :: z107 :: z108 :: z109 :: z110 :: z111 :: z112 :: z113 :: z114 :: z115 :: z116 :: z117 :: z118 :: z119 :: z120 :: z121 :: z122 :: z123 :: z124 :: z125 :: z126 :: z127 :: z128 :: z129 :: z130 :: z131 :: z132 :: z133 :: z134 :: z135 :: z136 :: z137 :: z138 :: z139 :: z140 :: z141 :: z142 :: z143 :: z144 :: z145 :: z146 :: z147 :: z148 :: z149 :: z150 :: z151 :: z152 :: z153 :: z154 :: z155 :: z156 :: z157 :: z158 :: z159 :: z160 :: z161 :: z162 :: z163 :: z164 :: []), []⟩ wA := by
  have hR : lrunTail6 = dropC 1 lrunTail5 := (dropC_add 1 5 _).symm
  refine wp_tail 1 hR ?_
  conv => arg 2; simp only [lrunTail5, bodyC, Try.f5, Option.getD_some, dropC, mkC]
  have hsz := hBA.size
  have hcp := fun W (hb : Below w.heap.size w W) => copy_16 lo A n cc ts W (rngL_at.2 (HX.out.below hb (Nat.le_refl _))) hn.out h0 (by omega)
  have hft := fun A1 d1 W h1 => extreme_any r c i true 0 A1 n d1 ts W h1 hn (by unfold maxLen; omega)
  obtain ⟨ys11, hys⟩ : ∃ ys, ys = (if er = 0 then extS r true ts (c, i) else []) := ⟨_, rfl⟩
  obtain ⟨m11, hm⟩ : ∃ m, ys11.length = m := ⟨_, rfl⟩
  have He11 := Lib.hid hys
  have Hl11 := Lib.hid hm
  rw [Her.out, show rV r = .agg #[.int .i64 r.frost, .int .i64 r.thaw, .int .i64 r.gain, .int .i64 r.full, .int .i64 r.ice, .int .i64 r.most, .int .i64 r.melt, .int .i64 r.rlow, .int .i64 r.rhigh, .int .i64 r.pull] from rfl, ← hys] at hft
  unfold ExtPost at hft
  rw [hm] at hft
  clear hys hm
  go_upto_region 6 with (fail)
  go_cut [11, 12] (fun v11 v12 wx => ∃ (A11 : Option Addr) (c11 : Nat), v11 = .slice A11 m11 c11 ∧ v12 = .int .i64 er ∧ Aside (m11 ≤ c11 ∧ c11 ≤ maxLen) ∧ Aside (Ints wx 0 A11 ys11) ∧ Aside (Below wA.heap.size wA wx))
  case first =>
    have hAll : Aside (∀ W, Below wA.heap.size wA W → (Below wA.heap.size wA W ∧ W.cell? ⟨w.heap.size, 0, none⟩ = some (.int .i64 r.frost) ∧ W.cell? ⟨w.heap.size, 1, none⟩ = some (.int .i64 r.thaw) ∧ W.cell? ⟨w.heap.size, 2, none⟩ = some (.int .i64 r.gain) ∧ W.cell? ⟨w.heap.size, 3, none⟩ = some (.int .i64 r.full) ∧ W.cell? ⟨w.heap.size, 4, none⟩ = some (.int .i64 r.ice) ∧ W.cell? ⟨w.heap.size, 5, none⟩ = some (.int .i64 r.most) ∧ W.cell? ⟨w.heap.size, 6, none⟩ = some (.int .i64 r.melt) ∧ W.cell? ⟨w.heap.size, 7, none⟩ = some (.int .i64 r.rlow) ∧ W.cell? ⟨w.heap.size, 8, none⟩ = some (.int .i64 r.rhigh) ∧ W.cell? ⟨w.heap.size, 9, none⟩ = some (.int .i64 r.pull) ∧ W.cell? ⟨w.heap.size, 10, none⟩ = some (.int .i64 c) ∧ W.cell? ⟨w.heap.size, 11, none⟩ = some (.int .i64 i))) := fun W h => ⟨h, (h.cell (p := ⟨w.heap.size, 0, none⟩) hA0).trans q0, (h.cell (p := ⟨w.heap.size, 1, none⟩) hA0).trans q1, (h.cell (p := ⟨w.heap.size, 2, none⟩) hA0).trans q2, (h.cell (p := ⟨w.heap.size, 3, none⟩) hA0).trans q3, (h.cell (p := ⟨w.heap.size, 4, none⟩) hA0).trans q4, (h.cell (p := ⟨w.heap.size, 5, none⟩) hA0).trans q5, (h.cell (p := ⟨w.heap.size, 6, none⟩) hA0).trans q6, (h.cell (p := ⟨w.heap.size, 7, none⟩) hA0).trans q7, (h.cell (p := ⟨w.heap.size, 8, none⟩) hA0).trans q8, (h.cell (p := ⟨w.heap.size, 9, none⟩) hA0).trans q9, (h.cell (p := ⟨w.heap.size, 10, none⟩) hA0).trans q10, (h.cell (p := ⟨w.heap.size, 11, none⟩) hA0).trans q11⟩
    refine wp_region_held_drew (S := fun W => Below wA.heap.size wA W ∧ W.cell? ⟨w.heap.size, 0, none⟩ = some (.int .i64 r.frost) ∧ W.cell? ⟨w.heap.size, 1, none⟩ = some (.int .i64 r.thaw) ∧ W.cell? ⟨w.heap.size, 2, none⟩ = some (.int .i64 r.gain) ∧ W.cell? ⟨w.heap.size, 3, none⟩ = some (.int .i64 r.full) ∧ W.cell? ⟨w.heap.size, 4, none⟩ = some (.int .i64 r.ice) ∧ W.cell? ⟨w.heap.size, 5, none⟩ = some (.int .i64 r.most) ∧ W.cell? ⟨w.heap.size, 6, none⟩ = some (.int .i64 r.melt) ∧ W.cell? ⟨w.heap.size, 7, none⟩ = some (.int .i64 r.rlow) ∧ W.cell? ⟨w.heap.size, 8, none⟩ = some (.int .i64 r.rhigh) ∧ W.cell? ⟨w.heap.size, 9, none⟩ = some (.int .i64 r.pull) ∧ W.cell? ⟨w.heap.size, 10, none⟩ = some (.int .i64 c) ∧ W.cell? ⟨w.heap.size, 11, none⟩ = some (.int .i64 i)) (by kernel_rfl) (hAll.out _ ((Below.refl _ _).drew)) (fun hS0 => ?_)
    refine wpAnyH_take (i := 0) (v := ?_) rfl (by kernel_rfl) (by kernel_rfl) (by kernel_rfl) (fun _ _ _ h => h) (Or.inl ⟨by rfl, ?_⟩) hS0 ?_
    rotate_left
    · (intro W hSw; (try dsimp only at hSw); go_split_ands; go_simp; (try with_reducible rfl))
    (try go_simp)
    refine wpAnyH_take (i := 1) (v := ?_) rfl (by kernel_rfl) (by kernel_rfl) (by kernel_rfl) (fun _ _ _ h => h) (Or.inl ⟨by rfl, ?_⟩) hS0 ?_
    rotate_left
    · (intro W hSw; (try dsimp only at hSw); go_split_ands; go_simp; (try with_reducible rfl))
    (try go_simp)
    refine wpAnyH_take (i := 2) (v := ?_) rfl (by kernel_rfl) (by kernel_rfl) (by kernel_rfl) (fun _ _ _ h => h) (Or.inl ⟨by rfl, ?_⟩) hS0 ?_
    rotate_left
    · (intro W hSw; (try dsimp only at hSw); go_split_ands; go_simp; (try with_reducible rfl))
    (try go_simp)
    refine wpAnyH_take (i := 3) (v := ?_) rfl (by kernel_rfl) (by kernel_rfl) (by kernel_rfl) (fun _ _ _ h => h) (Or.inl ⟨by rfl, ?_⟩) hS0 ?_
    rotate_left
    · (intro W hSw; (try dsimp only at hSw); go_split_ands; go_simp; (try with_reducible rfl))
    (try go_simp)
    refine wpAnyH_take (i := 4) (v := ?_) rfl (by kernel_rfl) (by kernel_rfl) (by kernel_rfl) (fun _ _ _ h => h) (Or.inl ⟨by rfl, ?_⟩) hS0 ?_
    rotate_left
    · (intro W hSw; (try dsimp only at hSw); go_split_ands; go_simp; (try with_reducible rfl))
    (try go_simp)
    refine wpAnyH_ready (rs := [5]) (by kernel_rfl) (by simp) ?_
    refine (AllReadyH.cons rfl (fun K hK => ?_) AllReadyH.nil)
    go_simp
    go_wp2_with (go_at_call 16; refine Calls.mono (hcp _ (hBA.trans (Below.mono (show Below wA.heap.size wA _ from (by repeat (first | (with_reducible assumption) | exact Below.refl _ _ | (with_reducible refine Below.alloc ?_ (by first | omega | (simp <;> omega)) _) | (with_reducible refine Below.setCell ?_ (by first | omega | (simp <;> omega)) _) | (with_reducible refine Below.drew ?_)))) hBA.size))) ?_; rintro e w6 ⟨A1, d1, rfl, hc1, hc2, hE1, hb6⟩)
    have hTw6 : Below wA.heap.size wA w6 := btS (show Below wA.heap.size wA _ from (by repeat (first | (with_reducible assumption) | exact Below.refl _ _ | (with_reducible refine Below.alloc ?_ (by first | omega | (simp <;> omega)) _) | (with_reducible refine Below.setCell ?_ (by first | omega | (simp <;> omega)) _) | (with_reducible refine Below.drew ?_)))) (Nat.le_refl _) hb6
    have hsw6 := hTw6.size
    have hzw6 := hb6.size
    (try simp only [World.size_alloc, World.size_drew, World.size_setCell] at hzw6)
    have hE1' : Ranges w6 0 A1 ts := (rngL_at.1 hE1).mono (Nat.zero_le _)
    refine hK.out _ _ (hAll.out _ hTw6) (fun hS1 => ?_)
    clear hK K
    (try go_simp)
    refine wpAnyH_ready (rs := [6]) (by kernel_rfl) (by simp) ?_
    refine (AllReadyH.cons rfl (fun K hK => ?_) AllReadyH.nil)
    go_simp
    go_wp2_with (go_at_call 31; refine Calls.mono (hft A1 d1 _ (hE1'.below (show Below w6.heap.size w6 _ from (by repeat (first | (with_reducible assumption) | exact Below.refl _ _ | (with_reducible refine Below.alloc ?_ (by first | omega | (simp <;> omega)) _) | (with_reducible refine Below.setCell ?_ (by first | omega | (simp <;> omega)) _) | (with_reducible refine Below.drew ?_)))) (Nat.le_refl _))) ?_; rintro e w9 ⟨A11, c11, rfl, hm1, hm2, _, hY, hb9⟩)
    have hTw9 : Below wA.heap.size wA w9 := btS (show Below wA.heap.size wA _ from (by repeat (first | (with_reducible assumption) | exact Below.refl _ _ | (with_reducible refine Below.alloc ?_ (by first | omega | (simp <;> omega)) _) | (with_reducible refine Below.setCell ?_ (by first | omega | (simp <;> omega)) _) | (with_reducible refine Below.drew ?_)))) (Nat.le_refl _) hb9
    have hsw9 := hTw9.size
    have hzw9 := hb9.size
    (try simp only [World.size_alloc, World.size_drew, World.size_setCell] at hzw9)
    have Hm11 := Lib.hid (And.intro hm1 hm2)
    have HY11 : Aside (Ints w9 0 A11 ys11) := hY.ints.mono (Nat.zero_le _)
    clear hm1 hm2 hY
    refine hK.out _ _ (hAll.out _ hTw9) (fun hS2 => ?_)
    clear hK K
    (try go_simp)
    refine wpAnyH_take (i := 7) (v := ?_) rfl (by kernel_rfl) (by kernel_rfl) (by kernel_rfl) (fun _ _ _ h => h) (Or.inl ⟨by rfl, ?_⟩) hS2 ?_
    rotate_left
    · (intro W hSw; (try dsimp only at hSw); go_split_ands; go_simp; (try with_reducible rfl))
    (try go_simp)
    refine wpAnyH_take (i := 8) (v := ?_) rfl (by kernel_rfl) (by kernel_rfl) (by kernel_rfl) (fun _ _ _ h => h) (Or.inl ⟨by rfl, ?_⟩) hS2 ?_
    rotate_left
    · (intro W hSw; (try dsimp only at hSw); go_split_ands; go_simp; (try with_reducible rfl))
    (try go_simp)
    refine wpAnyH_take (i := 9) (v := ?_) rfl (by kernel_rfl) (by kernel_rfl) (by kernel_rfl) (fun _ _ _ h => h) (Or.inl ⟨by rfl, ?_⟩) hS2 ?_
    rotate_left
    · (intro W hSw; (try dsimp only at hSw); go_split_ands; go_simp; (try with_reducible rfl))
    (try go_simp)
    refine wpAnyH_take (i := 10) (v := ?_) rfl (by kernel_rfl) (by kernel_rfl) (by kernel_rfl) (fun _ _ _ h => h) (Or.inl ⟨by rfl, ?_⟩) hS2 ?_
    rotate_left
    · (intro W hSw; (try dsimp only at hSw); go_split_ands; go_simp; (try with_reducible rfl))
    (try go_simp)
    refine wpAnyH_take (i := 11) (v := ?_) rfl (by kernel_rfl) (by kernel_rfl) (by kernel_rfl) (fun _ _ _ h => h) (Or.inl ⟨by rfl, ?_⟩) hS2 ?_
    rotate_left
    · (intro W hSw; (try dsimp only at hSw); go_split_ands; go_simp; (try with_reducible rfl))
    (try go_simp)
    refine wpAnyH_done (by kernel_rfl) ?_ _
    (try go_simp)
    go_wp2_with fail
    go_meet
    exact ⟨A11, c11, rfl, rfl, Hm11, HY11.out.below (show Below w9.heap.size w9 _ from (by repeat (first | (with_reducible assumption) | exact Below.refl _ _ | (with_reducible refine Below.alloc ?_ (by first | omega | (simp <;> omega)) _) | (with_reducible refine Below.setCell ?_ (by first | omega | (simp <;> omega)) _) | (with_reducible refine Below.drew ?_)))) (Nat.le_refl _), (show Below _ _ _ from (by repeat (first | (with_reducible assumption) | exact Below.refl _ _ | (with_reducible refine Below.alloc ?_ (by first | omega | (simp <;> omega)) _) | (with_reducible refine Below.setCell ?_ (by first | omega | (simp <;> omega)) _) | (with_reducible refine Below.drew ?_))))⟩
  case rest =>
    obtain ⟨A11, c11, rfl, rfl, Hm11, HY11, hT⟩ := hcut
    obtain ⟨wB, hWB⟩ : ∃ X, X = wc := ⟨_, rfl⟩
    subst hWB
    have hT' := hT.out
    have hBB : Below w.heap.size w wB := btS hBA (Nat.le_refl _) hT'
    replace c50 := (hT'.cell (p := ⟨b5, 0, none⟩) (by show b5 < _; omega)).trans c50
    replace c51 := (hT'.cell (p := ⟨b5, 1, none⟩) (by show b5 < _; omega)).trans c51
    replace l5 := Nat.lt_of_lt_of_le l5 hT'.size
    replace q0 := (hT'.cell (p := ⟨w.heap.size, 0, none⟩) (by show w.heap.size < _; omega)).trans q0
    replace q1 := (hT'.cell (p := ⟨w.heap.size, 1, none⟩) (by show w.heap.size < _; omega)).trans q1
    replace q2 := (hT'.cell (p := ⟨w.heap.size, 2, none⟩) (by show w.heap.size < _; omega)).trans q2
    replace q3 := (hT'.cell (p := ⟨w.heap.size, 3, none⟩) (by show w.heap.size < _; omega)).trans q3
    replace q4 := (hT'.cell (p := ⟨w.heap.size, 4, none⟩) (by show w.heap.size < _; omega)).trans q4
    replace q5 := (hT'.cell (p := ⟨w.heap.size, 5, none⟩) (by show w.heap.size < _; omega)).trans q5
    replace q6 := (hT'.cell (p := ⟨w.heap.size, 6, none⟩) (by show w.heap.size < _; omega)).trans q6
    replace q7 := (hT'.cell (p := ⟨w.heap.size, 7, none⟩) (by show w.heap.size < _; omega)).trans q7
    replace q8 := (hT'.cell (p := ⟨w.heap.size, 8, none⟩) (by show w.heap.size < _; omega)).trans q8
    replace q9 := (hT'.cell (p := ⟨w.heap.size, 9, none⟩) (by show w.heap.size < _; omega)).trans q9
    replace q10 := (hT'.cell (p := ⟨w.heap.size, 10, none⟩) (by show w.heap.size < _; omega)).trans q10
    replace q11 := (hT'.cell (p := ⟨w.heap.size, 11, none⟩) (by show w.heap.size < _; omega)).trans q11
    replace HR7 := HR7.out.below hT' (Nat.le_refl _)
    replace HY9 := HY9.out.below hT' (Nat.le_refl _)
    replace hA0 := Nat.lt_of_lt_of_le hA0 hT'.size
    go_wp2_with fail
    exact runs_t6 r c i lo A n cc ts er w HX h0 hn hl Her wB hBB hA0 q0 q1 q2 q3 q4 q5 q6 q7 q8 q9 q10 q11 b5 x5 y5 l5 c50 c51 Hn5 Hz5 A7 n7 c7 xs7 Hl7 Hm7 HR7 He7 Hg7 A9 m9 c9 ys9 Hl9 Hm9 HY9 He9 A11 m11 c11 ys11 Hl11 Hm11 HY11 He11

noncomputable def lrunTail4 : Code := dropC 4 (bodyC Try.f5)
set_option maxRecDepth 100000 in
set_option maxHeartbeats 4000000 in
theorem runs_t4 {z0 z3 z4 z9 z10 z11 z12 z13 z14 z15 z16 z17 z18 z19 z20 z21 z22 z23 z24 z25 z26 z27 z28 z29 z30 z31 z32 z33 z34 z35 z36 z37 z38 z39 z40 z41 z42 z43 z44 z45 z46 z47 z48 z49 z50 z51 z52 z53 z54 z55 z56 z57 z58 z59 z60 z61 z62 z63 z64 z65 z66 z67 z68 z69 z70 z71 z72 z73 z74 z75 z76 z77 z78 z79 z80 z81 z82 z83 z84 z85 z86 z87 z88 z89 z90 z91 z92 z93 z94 z95 z96 z97 z98 z99 z100 z101 z102 z103 z104 z105 z106 z107 z108 z109 z110 z111 z112 z113 z114 z115 z116 z117 z118 z119 z120 z121 z122 z123 z124 z125 z126 z127 z128 z129 z130 z131 z132 z133 z134 z135 z136 z137 z138 z139 z140 z141 z142 z143 z144 z145 z146 z147 z148 z149 z150 z151 z152 z153 z154 z155 z156 z157 z158 z159 z160 z161 z162 z163 z164 : Value} (r : TR) (c i : Int) (lo : Nat) (A : Option Addr) (n cc : Nat) (ts : List R) (er : Int) (w : World) (HX : Aside (Ranges w lo A ts)) (h0 : A = none → n = 0 ∧ cc = 0) (hn : Aside (ts.length = n)) (hl : n ≤ 1100) (Her : Aside (errT r c i ts = er)) (wA : World) (hBA : Below w.heap.size w wA) (hA0 : w.heap.size < wA.heap.size) (q0 : wA.cell? ⟨w.heap.size, 0, none⟩ = some (.int .i64 r.frost)) (q1 : wA.cell? ⟨w.heap.size, 1, none⟩ = some (.int .i64 r.thaw)) (q2 : wA.cell? ⟨w.heap.size, 2, none⟩ = some (.int .i64 r.gain)) (q3 : wA.cell? ⟨w.heap.size, 3, none⟩ = some (.int .i64 r.full)) (q4 : wA.cell? ⟨w.heap.size, 4, none⟩ = some (.int .i64 r.ice)) (q5 : wA.cell? ⟨w.heap.size, 5, none⟩ = some (.int .i64 r.most)) (q6 : wA.cell? ⟨w.heap.size, 6, none⟩ = some (.int .i64 r.melt)) (q7 : wA.cell? ⟨w.heap.size, 7, none⟩ = some (.int .i64 r.rlow)) (q8 : wA.cell? ⟨w.heap.size, 8, none⟩ = some (.int .i64 r.rhigh)) (q9 : wA.cell? ⟨w.heap.size, 9, none⟩ = some (.int .i64 r.pull)) (q10 : wA.cell? ⟨w.heap.size, 10, none⟩ = some (.int .i64 c)) (q11 : wA.cell? ⟨w.heap.size, 11, none⟩ = some (.int .i64 i)) (b5 : Nat) (x5 y5 : Int) (l5 : b5 < wA.heap.size) (c50 : wA.cell? ⟨b5, 0, none⟩ = some (.int .i64 x5)) (c51 : wA.cell? ⟨b5, 1, none⟩ = some (.int .i64 y5)) (Hn5 : Aside (er ≠ 0 → x5 = 0 ∧ y5 = 0)) (Hz5 : Aside (er = 0 → Rep1 (some (x5, y5)) (anyC (thruC r (ts.map pr) (oneC (c, i)))))) (A7 : Option Addr) (n7 c7 : Nat) (xs7 : List R) (Hl7 : Aside (xs7.length = n7)) (Hm7 : Aside (n7 ≤ c7 ∧ c7 ≤ maxLen)) (HR7 : Aside (Ranges wA 0 A7 xs7)) (He7 : Aside (er ≠ 0 → xs7 = [])) (Hg7 : Aside (er = 0 → ∃ G, Rep G (thruC r (ts.map pr) (oneC (c, i))) ∧ xs7 = endsR G 1891)) :
    Code.wp Try.prog lrunTail4 (bodyPost Try.prog Try.f5 fun e w' => e = .returned (.bool true) ∧ Below w.heap.size w w') ⟨List.toArray (z0 :: .slice A n cc :: .pointer (some ⟨w.heap.size, 0, none⟩) :: z3 :: z4 :: .pointer (some ⟨b5, 0, none⟩) :: .int .i64 er :: .slice A7 n7 c7 :: .int .i64 er :: z9 :: z10 :: z11 :: z12 :: z13 :: z14 :: z15 :: z16 :: z17 :: z18 :: z19 :: z20 :: z21 :: z22 :: z23 :: z24 :: z25 :: z26 :: z27 :: z28 :: z29 :: z30 :: z31 :: z32 :: z33 :: z34 :: z35 :: z36 :: z37 :: z38 :: z39 :: z40 :: z41 :: z42 :: z43 :: z44 :: z45 :: z46 :: z47 :: z48 :: z49 :: z50 :: z51 :: z52 :: z53 :: z54 :: z55 :: z56 :: z57 :: z58 :: z59 :: z60 :: z61 :: z62 :: z63 :: z64 :: z65 :: z66 :: z67 :: z68 :: z69 :: z70 :: z71 :: z72 :: z73 :: z74 :: z75 :: z76 :: z77 :: z78 :: z79 :: z80 :: z81 :: z82 :: z83 :: z84 :: z85 :: z86 :: z87 :: z88 :: z89 :: z90 :: z91 :: z92 :: z93 :: z94 :: z95 :: z96 :: z97 :: z98 :: z99 :: z100 :: z101 :: z102 :: z103 :: z104 :: z105 :: z106 :: z107 :: z108 :: z109 :: z110 :: z111 :: z112 :: z113 :: z114 :: z115 :: z116 :: z117 :: z118 :: z119 :: z120 :: z121 :: z122 :: z123 :: z124 :: z125 :: z126 :: z127 :: z128 :: z129 :: z130 :: z131 :: z132 :: z133 :: z134 :: z135 :: z136 :: z137 :: z138 :: z139 :: z140 :: z141 :: z142 :: z143 :: z144 :: z145 :: z146 :: z147 :: z148 :: z149 :: z150 :: z151 :: z152 :: z153 :: z154 :: z155 :: z156 :: z157 :: z158 :: z159 :: z160 :: z161 :: z162 :: z163 :: z164 :: []), []⟩ wA := by
  have hR : lrunTail5 = dropC 1 lrunTail4 := (dropC_add 1 4 _).symm
  refine wp_tail 1 hR ?_
  conv => arg 2; simp only [lrunTail4, bodyC, Try.f5, Option.getD_some, dropC, mkC]
  have hsz := hBA.size
  have hcp := fun W (hb : Below w.heap.size w W) => copy_16 lo A n cc ts W (rngL_at.2 (HX.out.below hb (Nat.le_refl _))) hn.out h0 (by omega)
  have hft := fun A1 d1 W h1 => extreme_any r c i false 0 A1 n d1 ts W h1 hn (by unfold maxLen; omega)
  obtain ⟨ys9, hys⟩ : ∃ ys, ys = (if er = 0 then extS r false ts (c, i) else []) := ⟨_, rfl⟩
  obtain ⟨m9, hm⟩ : ∃ m, ys9.length = m := ⟨_, rfl⟩
  have He9 := Lib.hid hys
  have Hl9 := Lib.hid hm
  rw [Her.out, show rV r = .agg #[.int .i64 r.frost, .int .i64 r.thaw, .int .i64 r.gain, .int .i64 r.full, .int .i64 r.ice, .int .i64 r.most, .int .i64 r.melt, .int .i64 r.rlow, .int .i64 r.rhigh, .int .i64 r.pull] from rfl, ← hys] at hft
  unfold ExtPost at hft
  rw [hm] at hft
  clear hys hm
  go_upto_region 5 with (fail)
  go_cut [9, 10] (fun v9 v10 wx => ∃ (A9 : Option Addr) (c9 : Nat), v9 = .slice A9 m9 c9 ∧ v10 = .int .i64 er ∧ Aside (m9 ≤ c9 ∧ c9 ≤ maxLen) ∧ Aside (Ints wx 0 A9 ys9) ∧ Aside (Below wA.heap.size wA wx))
  case first =>
    have hAll : Aside (∀ W, Below wA.heap.size wA W → (Below wA.heap.size wA W ∧ W.cell? ⟨w.heap.size, 0, none⟩ = some (.int .i64 r.frost) ∧ W.cell? ⟨w.heap.size, 1, none⟩ = some (.int .i64 r.thaw) ∧ W.cell? ⟨w.heap.size, 2, none⟩ = some (.int .i64 r.gain) ∧ W.cell? ⟨w.heap.size, 3, none⟩ = some (.int .i64 r.full) ∧ W.cell? ⟨w.heap.size, 4, none⟩ = some (.int .i64 r.ice) ∧ W.cell? ⟨w.heap.size, 5, none⟩ = some (.int .i64 r.most) ∧ W.cell? ⟨w.heap.size, 6, none⟩ = some (.int .i64 r.melt) ∧ W.cell? ⟨w.heap.size, 7, none⟩ = some (.int .i64 r.rlow) ∧ W.cell? ⟨w.heap.size, 8, none⟩ = some (.int .i64 r.rhigh) ∧ W.cell? ⟨w.heap.size, 9, none⟩ = some (.int .i64 r.pull) ∧ W.cell? ⟨w.heap.size, 10, none⟩ = some (.int .i64 c) ∧ W.cell? ⟨w.heap.size, 11, none⟩ = some (.int .i64 i))) := fun W h => ⟨h, (h.cell (p := ⟨w.heap.size, 0, none⟩) hA0).trans q0, (h.cell (p := ⟨w.heap.size, 1, none⟩) hA0).trans q1, (h.cell (p := ⟨w.heap.size, 2, none⟩) hA0).trans q2, (h.cell (p := ⟨w.heap.size, 3, none⟩) hA0).trans q3, (h.cell (p := ⟨w.heap.size, 4, none⟩) hA0).trans q4, (h.cell (p := ⟨w.heap.size, 5, none⟩) hA0).trans q5, (h.cell (p := ⟨w.heap.size, 6, none⟩) hA0).trans q6, (h.cell (p := ⟨w.heap.size, 7, none⟩) hA0).trans q7, (h.cell (p := ⟨w.heap.size, 8, none⟩) hA0).trans q8, (h.cell (p := ⟨w.heap.size, 9, none⟩) hA0).trans q9, (h.cell (p := ⟨w.heap.size, 10, none⟩) hA0).trans q10, (h.cell (p := ⟨w.heap.size, 11, none⟩) hA0).trans q11⟩
    refine wp_region_held_drew (S := fun W => Below wA.heap.size wA W ∧ W.cell? ⟨w.heap.size, 0, none⟩ = some (.int .i64 r.frost) ∧ W.cell? ⟨w.heap.size, 1, none⟩ = some (.int .i64 r.thaw) ∧ W.cell? ⟨w.heap.size, 2, none⟩ = some (.int .i64 r.gain) ∧ W.cell? ⟨w.heap.size, 3, none⟩ = some (.int .i64 r.full) ∧ W.cell? ⟨w.heap.size, 4, none⟩ = some (.int .i64 r.ice) ∧ W.cell? ⟨w.heap.size, 5, none⟩ = some (.int .i64 r.most) ∧ W.cell? ⟨w.heap.size, 6, none⟩ = some (.int .i64 r.melt) ∧ W.cell? ⟨w.heap.size, 7, none⟩ = some (.int .i64 r.rlow) ∧ W.cell? ⟨w.heap.size, 8, none⟩ = some (.int .i64 r.rhigh) ∧ W.cell? ⟨w.heap.size, 9, none⟩ = some (.int .i64 r.pull) ∧ W.cell? ⟨w.heap.size, 10, none⟩ = some (.int .i64 c) ∧ W.cell? ⟨w.heap.size, 11, none⟩ = some (.int .i64 i)) (by kernel_rfl) (hAll.out _ ((Below.refl _ _).drew)) (fun hS0 => ?_)
    refine wpAnyH_take (i := 0) (v := ?_) rfl (by kernel_rfl) (by kernel_rfl) (by kernel_rfl) (fun _ _ _ h => h) (Or.inl ⟨by rfl, ?_⟩) hS0 ?_
    rotate_left
    · (intro W hSw; (try dsimp only at hSw); go_split_ands; go_simp; (try with_reducible rfl))
    (try go_simp)
    refine wpAnyH_take (i := 1) (v := ?_) rfl (by kernel_rfl) (by kernel_rfl) (by kernel_rfl) (fun _ _ _ h => h) (Or.inl ⟨by rfl, ?_⟩) hS0 ?_
    rotate_left
    · (intro W hSw; (try dsimp only at hSw); go_split_ands; go_simp; (try with_reducible rfl))
    (try go_simp)
    refine wpAnyH_take (i := 2) (v := ?_) rfl (by kernel_rfl) (by kernel_rfl) (by kernel_rfl) (fun _ _ _ h => h) (Or.inl ⟨by rfl, ?_⟩) hS0 ?_
    rotate_left
    · (intro W hSw; (try dsimp only at hSw); go_split_ands; go_simp; (try with_reducible rfl))
    (try go_simp)
    refine wpAnyH_take (i := 3) (v := ?_) rfl (by kernel_rfl) (by kernel_rfl) (by kernel_rfl) (fun _ _ _ h => h) (Or.inl ⟨by rfl, ?_⟩) hS0 ?_
    rotate_left
    · (intro W hSw; (try dsimp only at hSw); go_split_ands; go_simp; (try with_reducible rfl))
    (try go_simp)
    refine wpAnyH_take (i := 4) (v := ?_) rfl (by kernel_rfl) (by kernel_rfl) (by kernel_rfl) (fun _ _ _ h => h) (Or.inl ⟨by rfl, ?_⟩) hS0 ?_
    rotate_left
    · (intro W hSw; (try dsimp only at hSw); go_split_ands; go_simp; (try with_reducible rfl))
    (try go_simp)
    refine wpAnyH_ready (rs := [5]) (by kernel_rfl) (by simp) ?_
    refine (AllReadyH.cons rfl (fun K hK => ?_) AllReadyH.nil)
    go_simp
    go_wp2_with (go_at_call 16; refine Calls.mono (hcp _ (hBA.trans (Below.mono (show Below wA.heap.size wA _ from (by repeat (first | (with_reducible assumption) | exact Below.refl _ _ | (with_reducible refine Below.alloc ?_ (by first | omega | (simp <;> omega)) _) | (with_reducible refine Below.setCell ?_ (by first | omega | (simp <;> omega)) _) | (with_reducible refine Below.drew ?_)))) hBA.size))) ?_; rintro e w6 ⟨A1, d1, rfl, hc1, hc2, hE1, hb6⟩)
    have hTw6 : Below wA.heap.size wA w6 := btS (show Below wA.heap.size wA _ from (by repeat (first | (with_reducible assumption) | exact Below.refl _ _ | (with_reducible refine Below.alloc ?_ (by first | omega | (simp <;> omega)) _) | (with_reducible refine Below.setCell ?_ (by first | omega | (simp <;> omega)) _) | (with_reducible refine Below.drew ?_)))) (Nat.le_refl _) hb6
    have hsw6 := hTw6.size
    have hzw6 := hb6.size
    (try simp only [World.size_alloc, World.size_drew, World.size_setCell] at hzw6)
    have hE1' : Ranges w6 0 A1 ts := (rngL_at.1 hE1).mono (Nat.zero_le _)
    refine hK.out _ _ (hAll.out _ hTw6) (fun hS1 => ?_)
    clear hK K
    (try go_simp)
    refine wpAnyH_ready (rs := [6]) (by kernel_rfl) (by simp) ?_
    refine (AllReadyH.cons rfl (fun K hK => ?_) AllReadyH.nil)
    go_simp
    go_wp2_with (go_at_call 31; refine Calls.mono (hft A1 d1 _ (hE1'.below (show Below w6.heap.size w6 _ from (by repeat (first | (with_reducible assumption) | exact Below.refl _ _ | (with_reducible refine Below.alloc ?_ (by first | omega | (simp <;> omega)) _) | (with_reducible refine Below.setCell ?_ (by first | omega | (simp <;> omega)) _) | (with_reducible refine Below.drew ?_)))) (Nat.le_refl _))) ?_; rintro e w9 ⟨A9, c9, rfl, hm1, hm2, _, hY, hb9⟩)
    have hTw9 : Below wA.heap.size wA w9 := btS (show Below wA.heap.size wA _ from (by repeat (first | (with_reducible assumption) | exact Below.refl _ _ | (with_reducible refine Below.alloc ?_ (by first | omega | (simp <;> omega)) _) | (with_reducible refine Below.setCell ?_ (by first | omega | (simp <;> omega)) _) | (with_reducible refine Below.drew ?_)))) (Nat.le_refl _) hb9
    have hsw9 := hTw9.size
    have hzw9 := hb9.size
    (try simp only [World.size_alloc, World.size_drew, World.size_setCell] at hzw9)
    have Hm9 := Lib.hid (And.intro hm1 hm2)
    have HY9 : Aside (Ints w9 0 A9 ys9) := hY.ints.mono (Nat.zero_le _)
    clear hm1 hm2 hY
    refine hK.out _ _ (hAll.out _ hTw9) (fun hS2 => ?_)
    clear hK K
    (try go_simp)
    refine wpAnyH_take (i := 7) (v := ?_) rfl (by kernel_rfl) (by kernel_rfl) (by kernel_rfl) (fun _ _ _ h => h) (Or.inl ⟨by rfl, ?_⟩) hS2 ?_
    rotate_left
    · (intro W hSw; (try dsimp only at hSw); go_split_ands; go_simp; (try with_reducible rfl))
    (try go_simp)
    refine wpAnyH_take (i := 8) (v := ?_) rfl (by kernel_rfl) (by kernel_rfl) (by kernel_rfl) (fun _ _ _ h => h) (Or.inl ⟨by rfl, ?_⟩) hS2 ?_
    rotate_left
    · (intro W hSw; (try dsimp only at hSw); go_split_ands; go_simp; (try with_reducible rfl))
    (try go_simp)
    refine wpAnyH_take (i := 9) (v := ?_) rfl (by kernel_rfl) (by kernel_rfl) (by kernel_rfl) (fun _ _ _ h => h) (Or.inl ⟨by rfl, ?_⟩) hS2 ?_
    rotate_left
    · (intro W hSw; (try dsimp only at hSw); go_split_ands; go_simp; (try with_reducible rfl))
    (try go_simp)
    refine wpAnyH_take (i := 10) (v := ?_) rfl (by kernel_rfl) (by kernel_rfl) (by kernel_rfl) (fun _ _ _ h => h) (Or.inl ⟨by rfl, ?_⟩) hS2 ?_
    rotate_left
    · (intro W hSw; (try dsimp only at hSw); go_split_ands; go_simp; (try with_reducible rfl))
    (try go_simp)
    refine wpAnyH_take (i := 11) (v := ?_) rfl (by kernel_rfl) (by kernel_rfl) (by kernel_rfl) (fun _ _ _ h => h) (Or.inl ⟨by rfl, ?_⟩) hS2 ?_
    rotate_left
    · (intro W hSw; (try dsimp only at hSw); go_split_ands; go_simp; (try with_reducible rfl))
    (try go_simp)
    refine wpAnyH_done (by kernel_rfl) ?_ _
    (try go_simp)
    go_wp2_with fail
    go_meet
    exact ⟨A9, c9, rfl, rfl, Hm9, HY9.out.below (show Below w9.heap.size w9 _ from (by repeat (first | (with_reducible assumption) | exact Below.refl _ _ | (with_reducible refine Below.alloc ?_ (by first | omega | (simp <;> omega)) _) | (with_reducible refine Below.setCell ?_ (by first | omega | (simp <;> omega)) _) | (with_reducible refine Below.drew ?_)))) (Nat.le_refl _), (show Below _ _ _ from (by repeat (first | (with_reducible assumption) | exact Below.refl _ _ | (with_reducible refine Below.alloc ?_ (by first | omega | (simp <;> omega)) _) | (with_reducible refine Below.setCell ?_ (by first | omega | (simp <;> omega)) _) | (with_reducible refine Below.drew ?_))))⟩
  case rest =>
    obtain ⟨A9, c9, rfl, rfl, Hm9, HY9, hT⟩ := hcut
    obtain ⟨wB, hWB⟩ : ∃ X, X = wc := ⟨_, rfl⟩
    subst hWB
    have hT' := hT.out
    have hBB : Below w.heap.size w wB := btS hBA (Nat.le_refl _) hT'
    replace c50 := (hT'.cell (p := ⟨b5, 0, none⟩) (by show b5 < _; omega)).trans c50
    replace c51 := (hT'.cell (p := ⟨b5, 1, none⟩) (by show b5 < _; omega)).trans c51
    replace l5 := Nat.lt_of_lt_of_le l5 hT'.size
    replace q0 := (hT'.cell (p := ⟨w.heap.size, 0, none⟩) (by show w.heap.size < _; omega)).trans q0
    replace q1 := (hT'.cell (p := ⟨w.heap.size, 1, none⟩) (by show w.heap.size < _; omega)).trans q1
    replace q2 := (hT'.cell (p := ⟨w.heap.size, 2, none⟩) (by show w.heap.size < _; omega)).trans q2
    replace q3 := (hT'.cell (p := ⟨w.heap.size, 3, none⟩) (by show w.heap.size < _; omega)).trans q3
    replace q4 := (hT'.cell (p := ⟨w.heap.size, 4, none⟩) (by show w.heap.size < _; omega)).trans q4
    replace q5 := (hT'.cell (p := ⟨w.heap.size, 5, none⟩) (by show w.heap.size < _; omega)).trans q5
    replace q6 := (hT'.cell (p := ⟨w.heap.size, 6, none⟩) (by show w.heap.size < _; omega)).trans q6
    replace q7 := (hT'.cell (p := ⟨w.heap.size, 7, none⟩) (by show w.heap.size < _; omega)).trans q7
    replace q8 := (hT'.cell (p := ⟨w.heap.size, 8, none⟩) (by show w.heap.size < _; omega)).trans q8
    replace q9 := (hT'.cell (p := ⟨w.heap.size, 9, none⟩) (by show w.heap.size < _; omega)).trans q9
    replace q10 := (hT'.cell (p := ⟨w.heap.size, 10, none⟩) (by show w.heap.size < _; omega)).trans q10
    replace q11 := (hT'.cell (p := ⟨w.heap.size, 11, none⟩) (by show w.heap.size < _; omega)).trans q11
    replace HR7 := HR7.out.below hT' (Nat.le_refl _)
    replace hA0 := Nat.lt_of_lt_of_le hA0 hT'.size
    go_wp2_with fail
    exact runs_t5 r c i lo A n cc ts er w HX h0 hn hl Her wB hBB hA0 q0 q1 q2 q3 q4 q5 q6 q7 q8 q9 q10 q11 b5 x5 y5 l5 c50 c51 Hn5 Hz5 A7 n7 c7 xs7 Hl7 Hm7 HR7 He7 Hg7 A9 m9 c9 ys9 Hl9 Hm9 HY9 He9

noncomputable def lrunTail3 : Code := dropC 3 (bodyC Try.f5)
set_option maxRecDepth 100000 in
set_option maxHeartbeats 4000000 in
theorem runs_t3 {z0 z3 z4 z7 z8 z9 z10 z11 z12 z13 z14 z15 z16 z17 z18 z19 z20 z21 z22 z23 z24 z25 z26 z27 z28 z29 z30 z31 z32 z33 z34 z35 z36 z37 z38 z39 z40 z41 z42 z43 z44 z45 z46 z47 z48 z49 z50 z51 z52 z53 z54 z55 z56 z57 z58 z59 z60 z61 z62 z63 z64 z65 z66 z67 z68 z69 z70 z71 z72 z73 z74 z75 z76 z77 z78 z79 z80 z81 z82 z83 z84 z85 z86 z87 z88 z89 z90 z91 z92 z93 z94 z95 z96 z97 z98 z99 z100 z101 z102 z103 z104 z105 z106 z107 z108 z109 z110 z111 z112 z113 z114 z115 z116 z117 z118 z119 z120 z121 z122 z123 z124 z125 z126 z127 z128 z129 z130 z131 z132 z133 z134 z135 z136 z137 z138 z139 z140 z141 z142 z143 z144 z145 z146 z147 z148 z149 z150 z151 z152 z153 z154 z155 z156 z157 z158 z159 z160 z161 z162 z163 z164 : Value} (r : TR) (c i : Int) (lo : Nat) (A : Option Addr) (n cc : Nat) (ts : List R) (er : Int) (w : World) (HX : Aside (Ranges w lo A ts)) (h0 : A = none → n = 0 ∧ cc = 0) (hn : Aside (ts.length = n)) (hl : n ≤ 1100) (Her : Aside (errT r c i ts = er)) (wA : World) (hBA : Below w.heap.size w wA) (hA0 : w.heap.size < wA.heap.size) (q0 : wA.cell? ⟨w.heap.size, 0, none⟩ = some (.int .i64 r.frost)) (q1 : wA.cell? ⟨w.heap.size, 1, none⟩ = some (.int .i64 r.thaw)) (q2 : wA.cell? ⟨w.heap.size, 2, none⟩ = some (.int .i64 r.gain)) (q3 : wA.cell? ⟨w.heap.size, 3, none⟩ = some (.int .i64 r.full)) (q4 : wA.cell? ⟨w.heap.size, 4, none⟩ = some (.int .i64 r.ice)) (q5 : wA.cell? ⟨w.heap.size, 5, none⟩ = some (.int .i64 r.most)) (q6 : wA.cell? ⟨w.heap.size, 6, none⟩ = some (.int .i64 r.melt)) (q7 : wA.cell? ⟨w.heap.size, 7, none⟩ = some (.int .i64 r.rlow)) (q8 : wA.cell? ⟨w.heap.size, 8, none⟩ = some (.int .i64 r.rhigh)) (q9 : wA.cell? ⟨w.heap.size, 9, none⟩ = some (.int .i64 r.pull)) (q10 : wA.cell? ⟨w.heap.size, 10, none⟩ = some (.int .i64 c)) (q11 : wA.cell? ⟨w.heap.size, 11, none⟩ = some (.int .i64 i)) (b5 : Nat) (x5 y5 : Int) (l5 : b5 < wA.heap.size) (c50 : wA.cell? ⟨b5, 0, none⟩ = some (.int .i64 x5)) (c51 : wA.cell? ⟨b5, 1, none⟩ = some (.int .i64 y5)) (Hn5 : Aside (er ≠ 0 → x5 = 0 ∧ y5 = 0)) (Hz5 : Aside (er = 0 → Rep1 (some (x5, y5)) (anyC (thruC r (ts.map pr) (oneC (c, i)))))) :
    Code.wp Try.prog lrunTail3 (bodyPost Try.prog Try.f5 fun e w' => e = .returned (.bool true) ∧ Below w.heap.size w w') ⟨List.toArray (z0 :: .slice A n cc :: .pointer (some ⟨w.heap.size, 0, none⟩) :: z3 :: z4 :: .pointer (some ⟨b5, 0, none⟩) :: .int .i64 er :: z7 :: z8 :: z9 :: z10 :: z11 :: z12 :: z13 :: z14 :: z15 :: z16 :: z17 :: z18 :: z19 :: z20 :: z21 :: z22 :: z23 :: z24 :: z25 :: z26 :: z27 :: z28 :: z29 :: z30 :: z31 :: z32 :: z33 :: z34 :: z35 :: z36 :: z37 :: z38 :: z39 :: z40 :: z41 :: z42 :: z43 :: z44 :: z45 :: z46 :: z47 :: z48 :: z49 :: z50 :: z51 :: z52 :: z53 :: z54 :: z55 :: z56 :: z57 :: z58 :: z59 :: z60 :: z61 :: z62 :: z63 :: z64 :: z65 :: z66 :: z67 :: z68 :: z69 :: z70 :: z71 :: z72 :: z73 :: z74 :: z75 :: z76 :: z77 :: z78 :: z79 :: z80 :: z81 :: z82 :: z83 :: z84 :: z85 :: z86 :: z87 :: z88 :: z89 :: z90 :: z91 :: z92 :: z93 :: z94 :: z95 :: z96 :: z97 :: z98 :: z99 :: z100 :: z101 :: z102 :: z103 :: z104 :: z105 :: z106 :: z107 :: z108 :: z109 :: z110 :: z111 :: z112 :: z113 :: z114 :: z115 :: z116 :: z117 :: z118 :: z119 :: z120 :: z121 :: z122 :: z123 :: z124 :: z125 :: z126 :: z127 :: z128 :: z129 :: z130 :: z131 :: z132 :: z133 :: z134 :: z135 :: z136 :: z137 :: z138 :: z139 :: z140 :: z141 :: z142 :: z143 :: z144 :: z145 :: z146 :: z147 :: z148 :: z149 :: z150 :: z151 :: z152 :: z153 :: z154 :: z155 :: z156 :: z157 :: z158 :: z159 :: z160 :: z161 :: z162 :: z163 :: z164 :: []), []⟩ wA := by
  have hR : lrunTail4 = dropC 1 lrunTail3 := (dropC_add 1 3 _).symm
  refine wp_tail 1 hR ?_
  conv => arg 2; simp only [lrunTail3, bodyC, Try.f5, Option.getD_some, dropC, mkC]
  have hsz := hBA.size
  have hcp := fun W (hb : Below w.heap.size w W) => copy_16 lo A n cc ts W (rngL_at.2 (HX.out.below hb (Nat.le_refl _))) hn.out h0 (by omega)
  have hft := fun A1 d1 W h1 => ends_any r c i 0 A1 n d1 ts W h1 hn (by unfold maxLen; omega)
  rw [Her.out, show rV r = .agg #[.int .i64 r.frost, .int .i64 r.thaw, .int .i64 r.gain, .int .i64 r.full, .int .i64 r.ice, .int .i64 r.most, .int .i64 r.melt, .int .i64 r.rlow, .int .i64 r.rhigh, .int .i64 r.pull] from rfl] at hft
  unfold EndsPost at hft
  go_upto_region 4 with (fail)
  go_cut [7, 8] (fun v7 v8 wx => ∃ (A7 : Option Addr) (n7 c7 : Nat) (xs7 : List R), v7 = .slice A7 n7 c7 ∧ v8 = .int .i64 er ∧ Aside (xs7.length = n7) ∧ Aside (n7 ≤ c7 ∧ c7 ≤ maxLen) ∧ Aside (Ranges wx 0 A7 xs7) ∧ Aside (er ≠ 0 → xs7 = []) ∧ Aside (er = 0 → ∃ G, Rep G (thruC r (ts.map pr) (oneC (c, i))) ∧ xs7 = endsR G 1891) ∧ Aside (Below wA.heap.size wA wx))
  case first =>
    have hAll : Aside (∀ W, Below wA.heap.size wA W → (Below wA.heap.size wA W ∧ W.cell? ⟨w.heap.size, 0, none⟩ = some (.int .i64 r.frost) ∧ W.cell? ⟨w.heap.size, 1, none⟩ = some (.int .i64 r.thaw) ∧ W.cell? ⟨w.heap.size, 2, none⟩ = some (.int .i64 r.gain) ∧ W.cell? ⟨w.heap.size, 3, none⟩ = some (.int .i64 r.full) ∧ W.cell? ⟨w.heap.size, 4, none⟩ = some (.int .i64 r.ice) ∧ W.cell? ⟨w.heap.size, 5, none⟩ = some (.int .i64 r.most) ∧ W.cell? ⟨w.heap.size, 6, none⟩ = some (.int .i64 r.melt) ∧ W.cell? ⟨w.heap.size, 7, none⟩ = some (.int .i64 r.rlow) ∧ W.cell? ⟨w.heap.size, 8, none⟩ = some (.int .i64 r.rhigh) ∧ W.cell? ⟨w.heap.size, 9, none⟩ = some (.int .i64 r.pull) ∧ W.cell? ⟨w.heap.size, 10, none⟩ = some (.int .i64 c) ∧ W.cell? ⟨w.heap.size, 11, none⟩ = some (.int .i64 i))) := fun W h => ⟨h, (h.cell (p := ⟨w.heap.size, 0, none⟩) hA0).trans q0, (h.cell (p := ⟨w.heap.size, 1, none⟩) hA0).trans q1, (h.cell (p := ⟨w.heap.size, 2, none⟩) hA0).trans q2, (h.cell (p := ⟨w.heap.size, 3, none⟩) hA0).trans q3, (h.cell (p := ⟨w.heap.size, 4, none⟩) hA0).trans q4, (h.cell (p := ⟨w.heap.size, 5, none⟩) hA0).trans q5, (h.cell (p := ⟨w.heap.size, 6, none⟩) hA0).trans q6, (h.cell (p := ⟨w.heap.size, 7, none⟩) hA0).trans q7, (h.cell (p := ⟨w.heap.size, 8, none⟩) hA0).trans q8, (h.cell (p := ⟨w.heap.size, 9, none⟩) hA0).trans q9, (h.cell (p := ⟨w.heap.size, 10, none⟩) hA0).trans q10, (h.cell (p := ⟨w.heap.size, 11, none⟩) hA0).trans q11⟩
    refine wp_region_held_drew (S := fun W => Below wA.heap.size wA W ∧ W.cell? ⟨w.heap.size, 0, none⟩ = some (.int .i64 r.frost) ∧ W.cell? ⟨w.heap.size, 1, none⟩ = some (.int .i64 r.thaw) ∧ W.cell? ⟨w.heap.size, 2, none⟩ = some (.int .i64 r.gain) ∧ W.cell? ⟨w.heap.size, 3, none⟩ = some (.int .i64 r.full) ∧ W.cell? ⟨w.heap.size, 4, none⟩ = some (.int .i64 r.ice) ∧ W.cell? ⟨w.heap.size, 5, none⟩ = some (.int .i64 r.most) ∧ W.cell? ⟨w.heap.size, 6, none⟩ = some (.int .i64 r.melt) ∧ W.cell? ⟨w.heap.size, 7, none⟩ = some (.int .i64 r.rlow) ∧ W.cell? ⟨w.heap.size, 8, none⟩ = some (.int .i64 r.rhigh) ∧ W.cell? ⟨w.heap.size, 9, none⟩ = some (.int .i64 r.pull) ∧ W.cell? ⟨w.heap.size, 10, none⟩ = some (.int .i64 c) ∧ W.cell? ⟨w.heap.size, 11, none⟩ = some (.int .i64 i)) (by kernel_rfl) (hAll.out _ ((Below.refl _ _).drew)) (fun hS0 => ?_)
    refine wpAnyH_take (i := 0) (v := ?_) rfl (by kernel_rfl) (by kernel_rfl) (by kernel_rfl) (fun _ _ _ h => h) (Or.inl ⟨by rfl, ?_⟩) hS0 ?_
    rotate_left
    · (intro W hSw; (try dsimp only at hSw); go_split_ands; go_simp; (try with_reducible rfl))
    (try go_simp)
    refine wpAnyH_take (i := 1) (v := ?_) rfl (by kernel_rfl) (by kernel_rfl) (by kernel_rfl) (fun _ _ _ h => h) (Or.inl ⟨by rfl, ?_⟩) hS0 ?_
    rotate_left
    · (intro W hSw; (try dsimp only at hSw); go_split_ands; go_simp; (try with_reducible rfl))
    (try go_simp)
    refine wpAnyH_take (i := 2) (v := ?_) rfl (by kernel_rfl) (by kernel_rfl) (by kernel_rfl) (fun _ _ _ h => h) (Or.inl ⟨by rfl, ?_⟩) hS0 ?_
    rotate_left
    · (intro W hSw; (try dsimp only at hSw); go_split_ands; go_simp; (try with_reducible rfl))
    (try go_simp)
    refine wpAnyH_take (i := 3) (v := ?_) rfl (by kernel_rfl) (by kernel_rfl) (by kernel_rfl) (fun _ _ _ h => h) (Or.inl ⟨by rfl, ?_⟩) hS0 ?_
    rotate_left
    · (intro W hSw; (try dsimp only at hSw); go_split_ands; go_simp; (try with_reducible rfl))
    (try go_simp)
    refine wpAnyH_take (i := 4) (v := ?_) rfl (by kernel_rfl) (by kernel_rfl) (by kernel_rfl) (fun _ _ _ h => h) (Or.inl ⟨by rfl, ?_⟩) hS0 ?_
    rotate_left
    · (intro W hSw; (try dsimp only at hSw); go_split_ands; go_simp; (try with_reducible rfl))
    (try go_simp)
    refine wpAnyH_ready (rs := [5]) (by kernel_rfl) (by simp) ?_
    refine (AllReadyH.cons rfl (fun K hK => ?_) AllReadyH.nil)
    go_simp
    go_wp2_with (go_at_call 16; refine Calls.mono (hcp _ (hBA.trans (Below.mono (show Below wA.heap.size wA _ from (by repeat (first | (with_reducible assumption) | exact Below.refl _ _ | (with_reducible refine Below.alloc ?_ (by first | omega | (simp <;> omega)) _) | (with_reducible refine Below.setCell ?_ (by first | omega | (simp <;> omega)) _) | (with_reducible refine Below.drew ?_)))) hBA.size))) ?_; rintro e w6 ⟨A1, d1, rfl, hc1, hc2, hE1, hb6⟩)
    have hTw6 : Below wA.heap.size wA w6 := btS (show Below wA.heap.size wA _ from (by repeat (first | (with_reducible assumption) | exact Below.refl _ _ | (with_reducible refine Below.alloc ?_ (by first | omega | (simp <;> omega)) _) | (with_reducible refine Below.setCell ?_ (by first | omega | (simp <;> omega)) _) | (with_reducible refine Below.drew ?_)))) (Nat.le_refl _) hb6
    have hsw6 := hTw6.size
    have hzw6 := hb6.size
    (try simp only [World.size_alloc, World.size_drew, World.size_setCell] at hzw6)
    have hE1' : Ranges w6 0 A1 ts := (rngL_at.1 hE1).mono (Nat.zero_le _)
    refine hK.out _ _ (hAll.out _ hTw6) (fun hS1 => ?_)
    clear hK K
    (try go_simp)
    refine wpAnyH_ready (rs := [6]) (by kernel_rfl) (by simp) ?_
    refine (AllReadyH.cons rfl (fun K hK => ?_) AllReadyH.nil)
    go_simp
    go_wp2_with (go_at_call 30; refine Calls.mono (hft A1 d1 _ (hE1'.below (show Below w6.heap.size w6 _ from (by repeat (first | (with_reducible assumption) | exact Below.refl _ _ | (with_reducible refine Below.alloc ?_ (by first | omega | (simp <;> omega)) _) | (with_reducible refine Below.setCell ?_ (by first | omega | (simp <;> omega)) _) | (with_reducible refine Below.drew ?_)))) (Nat.le_refl _))) ?_; rintro e w9 ⟨A7, n7, c7, xs7, rfl, hl7, hm7, hm7b, hR7, he7, hg7, hb9⟩)
    have hTw9 : Below wA.heap.size wA w9 := btS (show Below wA.heap.size wA _ from (by repeat (first | (with_reducible assumption) | exact Below.refl _ _ | (with_reducible refine Below.alloc ?_ (by first | omega | (simp <;> omega)) _) | (with_reducible refine Below.setCell ?_ (by first | omega | (simp <;> omega)) _) | (with_reducible refine Below.drew ?_)))) (Nat.le_refl _) hb9
    have hsw9 := hTw9.size
    have hzw9 := hb9.size
    (try simp only [World.size_alloc, World.size_drew, World.size_setCell] at hzw9)
    have Hl7 := Lib.hid hl7
    have Hm7 := Lib.hid (And.intro hm7 hm7b)
    have HR7 := Lib.hid (hR7.mono (Nat.zero_le _))
    have He7 := Lib.hid he7
    have Hg7 := Lib.hid hg7
    clear hl7 hm7 hm7b hR7 he7 hg7
    refine hK.out _ _ (hAll.out _ hTw9) (fun hS2 => ?_)
    clear hK K
    (try go_simp)
    refine wpAnyH_take (i := 7) (v := ?_) rfl (by kernel_rfl) (by kernel_rfl) (by kernel_rfl) (fun _ _ _ h => h) (Or.inl ⟨by rfl, ?_⟩) hS2 ?_
    rotate_left
    · (intro W hSw; (try dsimp only at hSw); go_split_ands; go_simp; (try with_reducible rfl))
    (try go_simp)
    refine wpAnyH_take (i := 8) (v := ?_) rfl (by kernel_rfl) (by kernel_rfl) (by kernel_rfl) (fun _ _ _ h => h) (Or.inl ⟨by rfl, ?_⟩) hS2 ?_
    rotate_left
    · (intro W hSw; (try dsimp only at hSw); go_split_ands; go_simp; (try with_reducible rfl))
    (try go_simp)
    refine wpAnyH_take (i := 9) (v := ?_) rfl (by kernel_rfl) (by kernel_rfl) (by kernel_rfl) (fun _ _ _ h => h) (Or.inl ⟨by rfl, ?_⟩) hS2 ?_
    rotate_left
    · (intro W hSw; (try dsimp only at hSw); go_split_ands; go_simp; (try with_reducible rfl))
    (try go_simp)
    refine wpAnyH_take (i := 10) (v := ?_) rfl (by kernel_rfl) (by kernel_rfl) (by kernel_rfl) (fun _ _ _ h => h) (Or.inl ⟨by rfl, ?_⟩) hS2 ?_
    rotate_left
    · (intro W hSw; (try dsimp only at hSw); go_split_ands; go_simp; (try with_reducible rfl))
    (try go_simp)
    refine wpAnyH_take (i := 11) (v := ?_) rfl (by kernel_rfl) (by kernel_rfl) (by kernel_rfl) (fun _ _ _ h => h) (Or.inl ⟨by rfl, ?_⟩) hS2 ?_
    rotate_left
    · (intro W hSw; (try dsimp only at hSw); go_split_ands; go_simp; (try with_reducible rfl))
    (try go_simp)
    refine wpAnyH_done (by kernel_rfl) ?_ _
    (try go_simp)
    go_wp2_with fail
    go_meet
    exact ⟨A7, n7, c7, xs7, rfl, rfl, Hl7, Hm7, HR7.out.below (show Below w9.heap.size w9 _ from (by repeat (first | (with_reducible assumption) | exact Below.refl _ _ | (with_reducible refine Below.alloc ?_ (by first | omega | (simp <;> omega)) _) | (with_reducible refine Below.setCell ?_ (by first | omega | (simp <;> omega)) _) | (with_reducible refine Below.drew ?_)))) (Nat.le_refl _), He7, Hg7, (show Below _ _ _ from (by repeat (first | (with_reducible assumption) | exact Below.refl _ _ | (with_reducible refine Below.alloc ?_ (by first | omega | (simp <;> omega)) _) | (with_reducible refine Below.setCell ?_ (by first | omega | (simp <;> omega)) _) | (with_reducible refine Below.drew ?_))))⟩
  case rest =>
    obtain ⟨A7, n7, c7, xs7, rfl, rfl, Hl7, Hm7, HR7, He7, Hg7, hT⟩ := hcut
    obtain ⟨wB, hWB⟩ : ∃ X, X = wc := ⟨_, rfl⟩
    subst hWB
    have hT' := hT.out
    have hBB : Below w.heap.size w wB := btS hBA (Nat.le_refl _) hT'
    replace c50 := (hT'.cell (p := ⟨b5, 0, none⟩) (by show b5 < _; omega)).trans c50
    replace c51 := (hT'.cell (p := ⟨b5, 1, none⟩) (by show b5 < _; omega)).trans c51
    replace l5 := Nat.lt_of_lt_of_le l5 hT'.size
    replace q0 := (hT'.cell (p := ⟨w.heap.size, 0, none⟩) (by show w.heap.size < _; omega)).trans q0
    replace q1 := (hT'.cell (p := ⟨w.heap.size, 1, none⟩) (by show w.heap.size < _; omega)).trans q1
    replace q2 := (hT'.cell (p := ⟨w.heap.size, 2, none⟩) (by show w.heap.size < _; omega)).trans q2
    replace q3 := (hT'.cell (p := ⟨w.heap.size, 3, none⟩) (by show w.heap.size < _; omega)).trans q3
    replace q4 := (hT'.cell (p := ⟨w.heap.size, 4, none⟩) (by show w.heap.size < _; omega)).trans q4
    replace q5 := (hT'.cell (p := ⟨w.heap.size, 5, none⟩) (by show w.heap.size < _; omega)).trans q5
    replace q6 := (hT'.cell (p := ⟨w.heap.size, 6, none⟩) (by show w.heap.size < _; omega)).trans q6
    replace q7 := (hT'.cell (p := ⟨w.heap.size, 7, none⟩) (by show w.heap.size < _; omega)).trans q7
    replace q8 := (hT'.cell (p := ⟨w.heap.size, 8, none⟩) (by show w.heap.size < _; omega)).trans q8
    replace q9 := (hT'.cell (p := ⟨w.heap.size, 9, none⟩) (by show w.heap.size < _; omega)).trans q9
    replace q10 := (hT'.cell (p := ⟨w.heap.size, 10, none⟩) (by show w.heap.size < _; omega)).trans q10
    replace q11 := (hT'.cell (p := ⟨w.heap.size, 11, none⟩) (by show w.heap.size < _; omega)).trans q11
    replace hA0 := Nat.lt_of_lt_of_le hA0 hT'.size
    go_wp2_with fail
    exact runs_t4 r c i lo A n cc ts er w HX h0 hn hl Her wB hBB hA0 q0 q1 q2 q3 q4 q5 q6 q7 q8 q9 q10 q11 b5 x5 y5 l5 c50 c51 Hn5 Hz5 A7 n7 c7 xs7 Hl7 Hm7 HR7 He7 Hg7

noncomputable def lrunTail2 : Code := dropC 2 (bodyC Try.f5)
set_option maxRecDepth 100000 in
set_option maxHeartbeats 4000000 in
theorem runs_t2 {z0 z3 z4 z5 z6 z7 z8 z9 z10 z11 z12 z13 z14 z15 z16 z17 z18 z19 z20 z21 z22 z23 z24 z25 z26 z27 z28 z29 z30 z31 z32 z33 z34 z35 z36 z37 z38 z39 z40 z41 z42 z43 z44 z45 z46 z47 z48 z49 z50 z51 z52 z53 z54 z55 z56 z57 z58 z59 z60 z61 z62 z63 z64 z65 z66 z67 z68 z69 z70 z71 z72 z73 z74 z75 z76 z77 z78 z79 z80 z81 z82 z83 z84 z85 z86 z87 z88 z89 z90 z91 z92 z93 z94 z95 z96 z97 z98 z99 z100 z101 z102 z103 z104 z105 z106 z107 z108 z109 z110 z111 z112 z113 z114 z115 z116 z117 z118 z119 z120 z121 z122 z123 z124 z125 z126 z127 z128 z129 z130 z131 z132 z133 z134 z135 z136 z137 z138 z139 z140 z141 z142 z143 z144 z145 z146 z147 z148 z149 z150 z151 z152 z153 z154 z155 z156 z157 z158 z159 z160 z161 z162 z163 z164 : Value} (r : TR) (c i : Int) (lo : Nat) (A : Option Addr) (n cc : Nat) (ts : List R) (er : Int) (w : World) (HX : Aside (Ranges w lo A ts)) (h0 : A = none → n = 0 ∧ cc = 0) (hn : Aside (ts.length = n)) (hl : n ≤ 1100) (Her : Aside (errT r c i ts = er)) (wA : World) (hBA : Below w.heap.size w wA) (hA0 : w.heap.size < wA.heap.size) (q0 : wA.cell? ⟨w.heap.size, 0, none⟩ = some (.int .i64 r.frost)) (q1 : wA.cell? ⟨w.heap.size, 1, none⟩ = some (.int .i64 r.thaw)) (q2 : wA.cell? ⟨w.heap.size, 2, none⟩ = some (.int .i64 r.gain)) (q3 : wA.cell? ⟨w.heap.size, 3, none⟩ = some (.int .i64 r.full)) (q4 : wA.cell? ⟨w.heap.size, 4, none⟩ = some (.int .i64 r.ice)) (q5 : wA.cell? ⟨w.heap.size, 5, none⟩ = some (.int .i64 r.most)) (q6 : wA.cell? ⟨w.heap.size, 6, none⟩ = some (.int .i64 r.melt)) (q7 : wA.cell? ⟨w.heap.size, 7, none⟩ = some (.int .i64 r.rlow)) (q8 : wA.cell? ⟨w.heap.size, 8, none⟩ = some (.int .i64 r.rhigh)) (q9 : wA.cell? ⟨w.heap.size, 9, none⟩ = some (.int .i64 r.pull)) (q10 : wA.cell? ⟨w.heap.size, 10, none⟩ = some (.int .i64 c)) (q11 : wA.cell? ⟨w.heap.size, 11, none⟩ = some (.int .i64 i))  :
    Code.wp Try.prog lrunTail2 (bodyPost Try.prog Try.f5 fun e w' => e = .returned (.bool true) ∧ Below w.heap.size w w') ⟨List.toArray (z0 :: .slice A n cc :: .pointer (some ⟨w.heap.size, 0, none⟩) :: z3 :: z4 :: z5 :: z6 :: z7 :: z8 :: z9 :: z10 :: z11 :: z12 :: z13 :: z14 :: z15 :: z16 :: z17 :: z18 :: z19 :: z20 :: z21 :: z22 :: z23 :: z24 :: z25 :: z26 :: z27 :: z28 :: z29 :: z30 :: z31 :: z32 :: z33 :: z34 :: z35 :: z36 :: z37 :: z38 :: z39 :: z40 :: z41 :: z42 :: z43 :: z44 :: z45 :: z46 :: z47 :: z48 :: z49 :: z50 :: z51 :: z52 :: z53 :: z54 :: z55 :: z56 :: z57 :: z58 :: z59 :: z60 :: z61 :: z62 :: z63 :: z64 :: z65 :: z66 :: z67 :: z68 :: z69 :: z70 :: z71 :: z72 :: z73 :: z74 :: z75 :: z76 :: z77 :: z78 :: z79 :: z80 :: z81 :: z82 :: z83 :: z84 :: z85 :: z86 :: z87 :: z88 :: z89 :: z90 :: z91 :: z92 :: z93 :: z94 :: z95 :: z96 :: z97 :: z98 :: z99 :: z100 :: z101 :: z102 :: z103 :: z104 :: z105 :: z106 :: z107 :: z108 :: z109 :: z110 :: z111 :: z112 :: z113 :: z114 :: z115 :: z116 :: z117 :: z118 :: z119 :: z120 :: z121 :: z122 :: z123 :: z124 :: z125 :: z126 :: z127 :: z128 :: z129 :: z130 :: z131 :: z132 :: z133 :: z134 :: z135 :: z136 :: z137 :: z138 :: z139 :: z140 :: z141 :: z142 :: z143 :: z144 :: z145 :: z146 :: z147 :: z148 :: z149 :: z150 :: z151 :: z152 :: z153 :: z154 :: z155 :: z156 :: z157 :: z158 :: z159 :: z160 :: z161 :: z162 :: z163 :: z164 :: []), []⟩ wA := by
  have hR : lrunTail3 = dropC 1 lrunTail2 := (dropC_add 1 2 _).symm
  refine wp_tail 1 hR ?_
  conv => arg 2; simp only [lrunTail2, bodyC, Try.f5, Option.getD_some, dropC, mkC]
  have hsz := hBA.size
  have hcp := fun W (hb : Below w.heap.size w W) => copy_16 lo A n cc ts W (rngL_at.2 (HX.out.below hb (Nat.le_refl _))) hn.out h0 (by omega)
  have hft := fun A1 d1 W h1 => runs_any r c i 0 A1 n d1 ts W h1 hn (by unfold maxLen; omega)
  rw [Her.out, show rV r = .agg #[.int .i64 r.frost, .int .i64 r.thaw, .int .i64 r.gain, .int .i64 r.full, .int .i64 r.ice, .int .i64 r.most, .int .i64 r.melt, .int .i64 r.rlow, .int .i64 r.rhigh, .int .i64 r.pull] from rfl] at hft
  unfold RunsPost at hft
  go_upto_region 3 with (fail)
  go_cut [5, 6] (fun v5 v6 wx => ∃ (b5 : Nat) (x y : Int), v5 = .pointer (some ⟨b5, 0, none⟩) ∧ v6 = .int .i64 er ∧ b5 < wx.heap.size ∧ wx.cell? ⟨b5, 0, none⟩ = some (.int .i64 x) ∧ wx.cell? ⟨b5, 1, none⟩ = some (.int .i64 y) ∧ Aside (er ≠ 0 → x = 0 ∧ y = 0) ∧ Aside (er = 0 → Rep1 (some (x, y)) (anyC (thruC r (ts.map pr) (oneC (c, i))))) ∧ Aside (Below wA.heap.size wA wx))
  case first =>
    have hAll : Aside (∀ W, Below wA.heap.size wA W → (Below wA.heap.size wA W ∧ W.cell? ⟨w.heap.size, 0, none⟩ = some (.int .i64 r.frost) ∧ W.cell? ⟨w.heap.size, 1, none⟩ = some (.int .i64 r.thaw) ∧ W.cell? ⟨w.heap.size, 2, none⟩ = some (.int .i64 r.gain) ∧ W.cell? ⟨w.heap.size, 3, none⟩ = some (.int .i64 r.full) ∧ W.cell? ⟨w.heap.size, 4, none⟩ = some (.int .i64 r.ice) ∧ W.cell? ⟨w.heap.size, 5, none⟩ = some (.int .i64 r.most) ∧ W.cell? ⟨w.heap.size, 6, none⟩ = some (.int .i64 r.melt) ∧ W.cell? ⟨w.heap.size, 7, none⟩ = some (.int .i64 r.rlow) ∧ W.cell? ⟨w.heap.size, 8, none⟩ = some (.int .i64 r.rhigh) ∧ W.cell? ⟨w.heap.size, 9, none⟩ = some (.int .i64 r.pull) ∧ W.cell? ⟨w.heap.size, 10, none⟩ = some (.int .i64 c) ∧ W.cell? ⟨w.heap.size, 11, none⟩ = some (.int .i64 i))) := fun W h => ⟨h, (h.cell (p := ⟨w.heap.size, 0, none⟩) hA0).trans q0, (h.cell (p := ⟨w.heap.size, 1, none⟩) hA0).trans q1, (h.cell (p := ⟨w.heap.size, 2, none⟩) hA0).trans q2, (h.cell (p := ⟨w.heap.size, 3, none⟩) hA0).trans q3, (h.cell (p := ⟨w.heap.size, 4, none⟩) hA0).trans q4, (h.cell (p := ⟨w.heap.size, 5, none⟩) hA0).trans q5, (h.cell (p := ⟨w.heap.size, 6, none⟩) hA0).trans q6, (h.cell (p := ⟨w.heap.size, 7, none⟩) hA0).trans q7, (h.cell (p := ⟨w.heap.size, 8, none⟩) hA0).trans q8, (h.cell (p := ⟨w.heap.size, 9, none⟩) hA0).trans q9, (h.cell (p := ⟨w.heap.size, 10, none⟩) hA0).trans q10, (h.cell (p := ⟨w.heap.size, 11, none⟩) hA0).trans q11⟩
    refine wp_region_held_drew (S := fun W => Below wA.heap.size wA W ∧ W.cell? ⟨w.heap.size, 0, none⟩ = some (.int .i64 r.frost) ∧ W.cell? ⟨w.heap.size, 1, none⟩ = some (.int .i64 r.thaw) ∧ W.cell? ⟨w.heap.size, 2, none⟩ = some (.int .i64 r.gain) ∧ W.cell? ⟨w.heap.size, 3, none⟩ = some (.int .i64 r.full) ∧ W.cell? ⟨w.heap.size, 4, none⟩ = some (.int .i64 r.ice) ∧ W.cell? ⟨w.heap.size, 5, none⟩ = some (.int .i64 r.most) ∧ W.cell? ⟨w.heap.size, 6, none⟩ = some (.int .i64 r.melt) ∧ W.cell? ⟨w.heap.size, 7, none⟩ = some (.int .i64 r.rlow) ∧ W.cell? ⟨w.heap.size, 8, none⟩ = some (.int .i64 r.rhigh) ∧ W.cell? ⟨w.heap.size, 9, none⟩ = some (.int .i64 r.pull) ∧ W.cell? ⟨w.heap.size, 10, none⟩ = some (.int .i64 c) ∧ W.cell? ⟨w.heap.size, 11, none⟩ = some (.int .i64 i)) (by kernel_rfl) (hAll.out _ ((Below.refl _ _).drew)) (fun hS0 => ?_)
    refine wpAnyH_take (i := 0) (v := ?_) rfl (by kernel_rfl) (by kernel_rfl) (by kernel_rfl) (fun _ _ _ h => h) (Or.inl ⟨by rfl, ?_⟩) hS0 ?_
    rotate_left
    · (intro W hSw; (try dsimp only at hSw); go_split_ands; go_simp; (try with_reducible rfl))
    (try go_simp)
    refine wpAnyH_take (i := 1) (v := ?_) rfl (by kernel_rfl) (by kernel_rfl) (by kernel_rfl) (fun _ _ _ h => h) (Or.inl ⟨by rfl, ?_⟩) hS0 ?_
    rotate_left
    · (intro W hSw; (try dsimp only at hSw); go_split_ands; go_simp; (try with_reducible rfl))
    (try go_simp)
    refine wpAnyH_take (i := 2) (v := ?_) rfl (by kernel_rfl) (by kernel_rfl) (by kernel_rfl) (fun _ _ _ h => h) (Or.inl ⟨by rfl, ?_⟩) hS0 ?_
    rotate_left
    · (intro W hSw; (try dsimp only at hSw); go_split_ands; go_simp; (try with_reducible rfl))
    (try go_simp)
    refine wpAnyH_take (i := 3) (v := ?_) rfl (by kernel_rfl) (by kernel_rfl) (by kernel_rfl) (fun _ _ _ h => h) (Or.inl ⟨by rfl, ?_⟩) hS0 ?_
    rotate_left
    · (intro W hSw; (try dsimp only at hSw); go_split_ands; go_simp; (try with_reducible rfl))
    (try go_simp)
    refine wpAnyH_take (i := 4) (v := ?_) rfl (by kernel_rfl) (by kernel_rfl) (by kernel_rfl) (fun _ _ _ h => h) (Or.inl ⟨by rfl, ?_⟩) hS0 ?_
    rotate_left
    · (intro W hSw; (try dsimp only at hSw); go_split_ands; go_simp; (try with_reducible rfl))
    (try go_simp)
    refine wpAnyH_ready (rs := [5, 10]) (by kernel_rfl) (by simp) ?_
    refine (AllReadyH.cons rfl (fun K hK => ?_) (AllReadyH.cons rfl (fun K hK => ?_) AllReadyH.nil))
    · skip
      go_simp
      go_wp2_with (go_at_call 16; refine Calls.mono (hcp _ (hBA.trans (Below.mono (show Below wA.heap.size wA _ from (by repeat (first | (with_reducible assumption) | exact Below.refl _ _ | (with_reducible refine Below.alloc ?_ (by first | omega | (simp <;> omega)) _) | (with_reducible refine Below.setCell ?_ (by first | omega | (simp <;> omega)) _) | (with_reducible refine Below.drew ?_)))) hBA.size))) ?_; rintro e w6 ⟨A1, d1, rfl, hc1, hc2, hE1, hb6⟩)
      have hTw6 : Below wA.heap.size wA w6 := btS (show Below wA.heap.size wA _ from (by repeat (first | (with_reducible assumption) | exact Below.refl _ _ | (with_reducible refine Below.alloc ?_ (by first | omega | (simp <;> omega)) _) | (with_reducible refine Below.setCell ?_ (by first | omega | (simp <;> omega)) _) | (with_reducible refine Below.drew ?_)))) (Nat.le_refl _) hb6
      have hsw6 := hTw6.size
      have hzw6 := hb6.size
      (try simp only [World.size_alloc, World.size_drew, World.size_setCell] at hzw6)
      have hE1' : Ranges w6 0 A1 ts := (rngL_at.1 hE1).mono (Nat.zero_le _)
      refine hK.out _ _ (hAll.out _ hTw6) (fun hS1 => ?_)
      clear hK K
      (try go_simp)
      refine wpAnyH_ready (rs := [6, 10]) (by kernel_rfl) (by simp) ?_
      refine (AllReadyH.cons rfl (fun K hK => ?_) (AllReadyH.cons rfl (fun K hK => ?_) AllReadyH.nil))
      · skip
        go_simp
        go_wp2_with (go_at_call 29; refine Calls.mono (hft A1 d1 _ (hE1'.below (show Below w6.heap.size w6 _ from (by repeat (first | (with_reducible assumption) | exact Below.refl _ _ | (with_reducible refine Below.alloc ?_ (by first | omega | (simp <;> omega)) _) | (with_reducible refine Below.setCell ?_ (by first | omega | (simp <;> omega)) _) | (with_reducible refine Below.drew ?_)))) (Nat.le_refl _))) ?_; rintro e w9 ⟨x5, y5, rfl, hn5, hz5, hb9⟩)
        have hTw9 : Below wA.heap.size wA w9 := btS (show Below wA.heap.size wA _ from (by repeat (first | (with_reducible assumption) | exact Below.refl _ _ | (with_reducible refine Below.alloc ?_ (by first | omega | (simp <;> omega)) _) | (with_reducible refine Below.setCell ?_ (by first | omega | (simp <;> omega)) _) | (with_reducible refine Below.drew ?_)))) (Nat.le_refl _) hb9
        have hsw9 := hTw9.size
        have hzw9 := hb9.size
        (try simp only [World.size_alloc, World.size_drew, World.size_setCell] at hzw9)
        have Hn5 := Lib.hid hn5
        have Hz5 := Lib.hid hz5
        clear hn5 hz5
        refine hK.out _ _ (hAll.out _ hTw9) (fun hS2 => ?_)
        clear hK K
        (try go_simp)
        refine wpAnyH_take (i := 7) (v := ?_) rfl (by kernel_rfl) (by kernel_rfl) (by kernel_rfl) (fun _ _ _ h => h) (Or.inl ⟨by rfl, ?_⟩) hS2 ?_
        rotate_left
        · (intro W hSw; (try dsimp only at hSw); go_split_ands; go_simp; (try with_reducible rfl))
        (try go_simp)
        refine wpAnyH_take (i := 8) (v := ?_) rfl (by kernel_rfl) (by kernel_rfl) (by kernel_rfl) (fun _ _ _ h => h) (Or.inl ⟨by rfl, ?_⟩) hS2 ?_
        rotate_left
        · (intro W hSw; (try dsimp only at hSw); go_split_ands; go_simp; (try with_reducible rfl))
        (try go_simp)
        refine wpAnyH_take (i := 9) (v := ?_) rfl (by kernel_rfl) (by kernel_rfl) (by kernel_rfl) (fun _ _ _ h => h) (Or.inl ⟨by rfl, ?_⟩) hS2 ?_
        rotate_left
        · (intro W hSw; (try dsimp only at hSw); go_split_ands; go_simp; (try with_reducible rfl))
        (try go_simp)
        refine wpAnyH_ready (rs := [10]) (by kernel_rfl) (by simp) ?_
        refine (AllReadyH.cons rfl (fun K hK => ?_) AllReadyH.nil)
        go_simp
        refine hK.out _ _ (hAll.out _ (by repeat (first | (with_reducible assumption) | exact Below.refl _ _ | (with_reducible refine Below.alloc ?_ (by first | omega | (simp <;> omega)) _) | (with_reducible refine Below.setCell ?_ (by first | omega | (simp <;> omega)) _) | (with_reducible refine Below.drew ?_)))) (fun hS3 => ?_)
        clear hK K
        (try go_simp)
        refine wpAnyH_ready (rs := [11]) (by kernel_rfl) (by simp) ?_
        refine (AllReadyH.cons rfl (fun K hK => ?_) AllReadyH.nil)
        go_simp
        refine hK.out _ _ (hAll.out _ (by repeat (first | (with_reducible assumption) | exact Below.refl _ _ | (with_reducible refine Below.alloc ?_ (by first | omega | (simp <;> omega)) _) | (with_reducible refine Below.setCell ?_ (by first | omega | (simp <;> omega)) _) | (with_reducible refine Below.drew ?_)))) (fun hS4 => ?_)
        clear hK K
        (try go_simp)
        refine wpAnyH_take (i := 12) (v := ?_) rfl (by kernel_rfl) (by kernel_rfl) (by kernel_rfl) (fun _ _ _ h => h) (Or.inl ⟨by rfl, ?_⟩) hS4 ?_
        rotate_left
        · (intro W hSw; (try dsimp only at hSw); go_split_ands; go_simp; (try with_reducible rfl))
        (try go_simp)
        refine wpAnyH_done (by kernel_rfl) ?_ _
        (try go_simp)
        go_wp2_with fail
        go_meet
        exact ⟨_, x5, y5, rfl, rfl, by first | omega | (simp; done) | (simp; omega), by simp [go_sem], by simp [go_sem], Hn5, Hz5, (show Below _ _ _ from (by repeat (first | (with_reducible assumption) | exact Below.refl _ _ | (with_reducible refine Below.alloc ?_ (by first | omega | (simp <;> omega)) _) | (with_reducible refine Below.setCell ?_ (by first | omega | (simp <;> omega)) _) | (with_reducible refine Below.drew ?_))))⟩
      · skip
        go_simp
        refine hK.out _ _ (hAll.out _ (by repeat (first | (with_reducible assumption) | exact Below.refl _ _ | (with_reducible refine Below.alloc ?_ (by first | omega | (simp <;> omega)) _) | (with_reducible refine Below.setCell ?_ (by first | omega | (simp <;> omega)) _) | (with_reducible refine Below.drew ?_)))) (fun hS5 => ?_)
        clear hK K
        (try go_simp)
        refine wpAnyH_ready (rs := [6]) (by kernel_rfl) (by simp) ?_
        refine (AllReadyH.cons rfl (fun K hK => ?_) AllReadyH.nil)
        go_simp
        go_wp2_with (go_at_call 29; refine Calls.mono (hft A1 d1 _ (hE1'.below (show Below w6.heap.size w6 _ from (by repeat (first | (with_reducible assumption) | exact Below.refl _ _ | (with_reducible refine Below.alloc ?_ (by first | omega | (simp <;> omega)) _) | (with_reducible refine Below.setCell ?_ (by first | omega | (simp <;> omega)) _) | (with_reducible refine Below.drew ?_)))) (Nat.le_refl _))) ?_; rintro e w9 ⟨x5, y5, rfl, hn5, hz5, hb9⟩)
        have hTw9 : Below wA.heap.size wA w9 := btS (show Below wA.heap.size wA _ from (by repeat (first | (with_reducible assumption) | exact Below.refl _ _ | (with_reducible refine Below.alloc ?_ (by first | omega | (simp <;> omega)) _) | (with_reducible refine Below.setCell ?_ (by first | omega | (simp <;> omega)) _) | (with_reducible refine Below.drew ?_)))) (Nat.le_refl _) hb9
        have hsw9 := hTw9.size
        have hzw9 := hb9.size
        (try simp only [World.size_alloc, World.size_drew, World.size_setCell] at hzw9)
        have cb5w9_0 : w9.cell? ⟨w6.heap.size, 0, none⟩ = some (.int .i64 0) := (hb9.cell (p := ⟨w6.heap.size, 0, none⟩) (by show w6.heap.size < _; first | omega | (simp; done) | (simp; omega))).trans (by first | exact cnone_0 | (simp [go_sem]))
        have fb5w9_0 : w9.frozen? ⟨w6.heap.size, 0, none⟩ = false := (hb9.frozen (p := ⟨w6.heap.size, 0, none⟩) (by show w6.heap.size < _; first | omega | (simp; done) | (simp; omega))).trans (by first | exact fnone_0 | (simp [go_sem]))
        have cb5w9_1 : w9.cell? ⟨w6.heap.size, 1, none⟩ = some (.int .i64 0) := (hb9.cell (p := ⟨w6.heap.size, 1, none⟩) (by show w6.heap.size < _; first | omega | (simp; done) | (simp; omega))).trans (by first | exact cnone_1 | (simp [go_sem]))
        have fb5w9_1 : w9.frozen? ⟨w6.heap.size, 1, none⟩ = false := (hb9.frozen (p := ⟨w6.heap.size, 1, none⟩) (by show w6.heap.size < _; first | omega | (simp; done) | (simp; omega))).trans (by first | exact fnone_1 | (simp [go_sem]))
        have lb5w9 : w6.heap.size < w9.heap.size := by first | omega | (simp at hzw9; omega)
        have Hn5 := Lib.hid hn5
        have Hz5 := Lib.hid hz5
        clear hn5 hz5
        refine hK.out _ _ (hAll.out _ hTw9) (fun hS6 => ?_)
        clear hK K
        (try go_simp)
        refine wpAnyH_take (i := 7) (v := ?_) rfl (by kernel_rfl) (by kernel_rfl) (by kernel_rfl) (fun _ _ _ h => h) (Or.inl ⟨by rfl, ?_⟩) hS6 ?_
        rotate_left
        · (intro W hSw; (try dsimp only at hSw); go_split_ands; go_simp; (try with_reducible rfl))
        (try go_simp)
        refine wpAnyH_take (i := 8) (v := ?_) rfl (by kernel_rfl) (by kernel_rfl) (by kernel_rfl) (fun _ _ _ h => h) (Or.inl ⟨by rfl, ?_⟩) hS6 ?_
        rotate_left
        · (intro W hSw; (try dsimp only at hSw); go_split_ands; go_simp; (try with_reducible rfl))
        (try go_simp)
        refine wpAnyH_take (i := 9) (v := ?_) rfl (by kernel_rfl) (by kernel_rfl) (by kernel_rfl) (fun _ _ _ h => h) (Or.inl ⟨by rfl, ?_⟩) hS6 ?_
        rotate_left
        · (intro W hSw; (try dsimp only at hSw); go_split_ands; go_simp; (try with_reducible rfl))
        (try go_simp)
        refine wpAnyH_ready (rs := [11]) (by kernel_rfl) (by simp) ?_
        refine (AllReadyH.cons rfl (fun K hK => ?_) AllReadyH.nil)
        go_simp
        refine hK.out _ _ (hAll.out _ (by repeat (first | (with_reducible assumption) | exact Below.refl _ _ | (with_reducible refine Below.alloc ?_ (by first | omega | (simp <;> omega)) _) | (with_reducible refine Below.setCell ?_ (by first | omega | (simp <;> omega)) _) | (with_reducible refine Below.drew ?_)))) (fun hS7 => ?_)
        clear hK K
        (try go_simp)
        refine wpAnyH_take (i := 12) (v := ?_) rfl (by kernel_rfl) (by kernel_rfl) (by kernel_rfl) (fun _ _ _ h => h) (Or.inl ⟨by rfl, ?_⟩) hS7 ?_
        rotate_left
        · (intro W hSw; (try dsimp only at hSw); go_split_ands; go_simp; (try with_reducible rfl))
        (try go_simp)
        refine wpAnyH_done (by kernel_rfl) ?_ _
        (try go_simp)
        go_wp2_with fail
        go_meet
        exact ⟨_, x5, y5, rfl, rfl, by first | omega | (simp; done) | (simp; omega), by simp [go_sem, cb5w9_0, cb5w9_1, lb5w9], by simp [go_sem, cb5w9_0, cb5w9_1, lb5w9], Hn5, Hz5, (show Below _ _ _ from (by repeat (first | (with_reducible assumption) | exact Below.refl _ _ | (with_reducible refine Below.alloc ?_ (by first | omega | (simp <;> omega)) _) | (with_reducible refine Below.setCell ?_ (by first | omega | (simp <;> omega)) _) | (with_reducible refine Below.drew ?_))))⟩
    · skip
      go_simp
      refine hK.out _ _ (hAll.out _ (by repeat (first | (with_reducible assumption) | exact Below.refl _ _ | (with_reducible refine Below.alloc ?_ (by first | omega | (simp <;> omega)) _) | (with_reducible refine Below.setCell ?_ (by first | omega | (simp <;> omega)) _) | (with_reducible refine Below.drew ?_)))) (fun hS8 => ?_)
      clear hK K
      (try go_simp)
      refine wpAnyH_ready (rs := [5]) (by kernel_rfl) (by simp) ?_
      refine (AllReadyH.cons rfl (fun K hK => ?_) AllReadyH.nil)
      go_simp
      go_wp2_with (go_at_call 16; refine Calls.mono (hcp _ (hBA.trans (Below.mono (show Below wA.heap.size wA _ from (by repeat (first | (with_reducible assumption) | exact Below.refl _ _ | (with_reducible refine Below.alloc ?_ (by first | omega | (simp <;> omega)) _) | (with_reducible refine Below.setCell ?_ (by first | omega | (simp <;> omega)) _) | (with_reducible refine Below.drew ?_)))) hBA.size))) ?_; rintro e w6 ⟨A1, d1, rfl, hc1, hc2, hE1, hb6⟩)
      have hTw6 : Below wA.heap.size wA w6 := btS (show Below wA.heap.size wA _ from (by repeat (first | (with_reducible assumption) | exact Below.refl _ _ | (with_reducible refine Below.alloc ?_ (by first | omega | (simp <;> omega)) _) | (with_reducible refine Below.setCell ?_ (by first | omega | (simp <;> omega)) _) | (with_reducible refine Below.drew ?_)))) (Nat.le_refl _) hb6
      have hsw6 := hTw6.size
      have hzw6 := hb6.size
      (try simp only [World.size_alloc, World.size_drew, World.size_setCell] at hzw6)
      have cb5w6_0 : w6.cell? ⟨wA.heap.size, 0, none⟩ = some (.int .i64 0) := (hb6.cell (p := ⟨wA.heap.size, 0, none⟩) (by show wA.heap.size < _; first | omega | (simp; done) | (simp; omega))).trans (by first | exact cnone_0 | (simp [go_sem]))
      have fb5w6_0 : w6.frozen? ⟨wA.heap.size, 0, none⟩ = false := (hb6.frozen (p := ⟨wA.heap.size, 0, none⟩) (by show wA.heap.size < _; first | omega | (simp; done) | (simp; omega))).trans (by first | exact fnone_0 | (simp [go_sem]))
      have cb5w6_1 : w6.cell? ⟨wA.heap.size, 1, none⟩ = some (.int .i64 0) := (hb6.cell (p := ⟨wA.heap.size, 1, none⟩) (by show wA.heap.size < _; first | omega | (simp; done) | (simp; omega))).trans (by first | exact cnone_1 | (simp [go_sem]))
      have fb5w6_1 : w6.frozen? ⟨wA.heap.size, 1, none⟩ = false := (hb6.frozen (p := ⟨wA.heap.size, 1, none⟩) (by show wA.heap.size < _; first | omega | (simp; done) | (simp; omega))).trans (by first | exact fnone_1 | (simp [go_sem]))
      have lb5w6 : wA.heap.size < w6.heap.size := by first | omega | (simp at hzw6; omega)
      have hE1' : Ranges w6 0 A1 ts := (rngL_at.1 hE1).mono (Nat.zero_le _)
      refine hK.out _ _ (hAll.out _ hTw6) (fun hS9 => ?_)
      clear hK K
      (try go_simp)
      refine wpAnyH_ready (rs := [6]) (by kernel_rfl) (by simp) ?_
      refine (AllReadyH.cons rfl (fun K hK => ?_) AllReadyH.nil)
      go_simp
      go_wp2_with (go_at_call 29; refine Calls.mono (hft A1 d1 _ (hE1'.below (show Below w6.heap.size w6 _ from (by repeat (first | (with_reducible assumption) | exact Below.refl _ _ | (with_reducible refine Below.alloc ?_ (by first | omega | (simp <;> omega)) _) | (with_reducible refine Below.setCell ?_ (by first | omega | (simp <;> omega)) _) | (with_reducible refine Below.drew ?_)))) (Nat.le_refl _))) ?_; rintro e w9 ⟨x5, y5, rfl, hn5, hz5, hb9⟩)
      have hTw9 : Below wA.heap.size wA w9 := btS (show Below wA.heap.size wA _ from (by repeat (first | (with_reducible assumption) | exact Below.refl _ _ | (with_reducible refine Below.alloc ?_ (by first | omega | (simp <;> omega)) _) | (with_reducible refine Below.setCell ?_ (by first | omega | (simp <;> omega)) _) | (with_reducible refine Below.drew ?_)))) (Nat.le_refl _) hb9
      have hsw9 := hTw9.size
      have hzw9 := hb9.size
      (try simp only [World.size_alloc, World.size_drew, World.size_setCell] at hzw9)
      have cb5w9_0 : w9.cell? ⟨wA.heap.size, 0, none⟩ = some (.int .i64 0) := (hb9.cell (p := ⟨wA.heap.size, 0, none⟩) (by show wA.heap.size < _; first | omega | (simp; done) | (simp; omega))).trans (by first | exact cb5w6_0 | (simp [go_sem]))
      have fb5w9_0 : w9.frozen? ⟨wA.heap.size, 0, none⟩ = false := (hb9.frozen (p := ⟨wA.heap.size, 0, none⟩) (by show wA.heap.size < _; first | omega | (simp; done) | (simp; omega))).trans (by first | exact fb5w6_0 | (simp [go_sem]))
      have cb5w9_1 : w9.cell? ⟨wA.heap.size, 1, none⟩ = some (.int .i64 0) := (hb9.cell (p := ⟨wA.heap.size, 1, none⟩) (by show wA.heap.size < _; first | omega | (simp; done) | (simp; omega))).trans (by first | exact cb5w6_1 | (simp [go_sem]))
      have fb5w9_1 : w9.frozen? ⟨wA.heap.size, 1, none⟩ = false := (hb9.frozen (p := ⟨wA.heap.size, 1, none⟩) (by show wA.heap.size < _; first | omega | (simp; done) | (simp; omega))).trans (by first | exact fb5w6_1 | (simp [go_sem]))
      have lb5w9 : wA.heap.size < w9.heap.size := by first | omega | (simp at hzw9; omega)
      have Hn5 := Lib.hid hn5
      have Hz5 := Lib.hid hz5
      clear hn5 hz5
      refine hK.out _ _ (hAll.out _ hTw9) (fun hS10 => ?_)
      clear hK K
      (try go_simp)
      refine wpAnyH_take (i := 7) (v := ?_) rfl (by kernel_rfl) (by kernel_rfl) (by kernel_rfl) (fun _ _ _ h => h) (Or.inl ⟨by rfl, ?_⟩) hS10 ?_
      rotate_left
      · (intro W hSw; (try dsimp only at hSw); go_split_ands; go_simp; (try with_reducible rfl))
      (try go_simp)
      refine wpAnyH_take (i := 8) (v := ?_) rfl (by kernel_rfl) (by kernel_rfl) (by kernel_rfl) (fun _ _ _ h => h) (Or.inl ⟨by rfl, ?_⟩) hS10 ?_
      rotate_left
      · (intro W hSw; (try dsimp only at hSw); go_split_ands; go_simp; (try with_reducible rfl))
      (try go_simp)
      refine wpAnyH_take (i := 9) (v := ?_) rfl (by kernel_rfl) (by kernel_rfl) (by kernel_rfl) (fun _ _ _ h => h) (Or.inl ⟨by rfl, ?_⟩) hS10 ?_
      rotate_left
      · (intro W hSw; (try dsimp only at hSw); go_split_ands; go_simp; (try with_reducible rfl))
      (try go_simp)
      refine wpAnyH_ready (rs := [11]) (by kernel_rfl) (by simp) ?_
      refine (AllReadyH.cons rfl (fun K hK => ?_) AllReadyH.nil)
      go_simp
      refine hK.out _ _ (hAll.out _ (by repeat (first | (with_reducible assumption) | exact Below.refl _ _ | (with_reducible refine Below.alloc ?_ (by first | omega | (simp <;> omega)) _) | (with_reducible refine Below.setCell ?_ (by first | omega | (simp <;> omega)) _) | (with_reducible refine Below.drew ?_)))) (fun hS11 => ?_)
      clear hK K
      (try go_simp)
      refine wpAnyH_take (i := 12) (v := ?_) rfl (by kernel_rfl) (by kernel_rfl) (by kernel_rfl) (fun _ _ _ h => h) (Or.inl ⟨by rfl, ?_⟩) hS11 ?_
      rotate_left
      · (intro W hSw; (try dsimp only at hSw); go_split_ands; go_simp; (try with_reducible rfl))
      (try go_simp)
      refine wpAnyH_done (by kernel_rfl) ?_ _
      (try go_simp)
      go_wp2_with fail
      go_meet
      exact ⟨_, x5, y5, rfl, rfl, by first | omega | (simp; done) | (simp; omega), by simp [go_sem, cb5w9_0, cb5w9_1, lb5w9], by simp [go_sem, cb5w9_0, cb5w9_1, lb5w9], Hn5, Hz5, (show Below _ _ _ from (by repeat (first | (with_reducible assumption) | exact Below.refl _ _ | (with_reducible refine Below.alloc ?_ (by first | omega | (simp <;> omega)) _) | (with_reducible refine Below.setCell ?_ (by first | omega | (simp <;> omega)) _) | (with_reducible refine Below.drew ?_))))⟩
  case rest =>
    obtain ⟨b5, x5, y5, rfl, rfl, l5, c50, c51, Hn5, Hz5, hT⟩ := hcut
    obtain ⟨wB, hWB⟩ : ∃ X, X = wc := ⟨_, rfl⟩
    subst hWB
    have hT' := hT.out
    have hBB : Below w.heap.size w wB := btS hBA (Nat.le_refl _) hT'
    replace q0 := (hT'.cell (p := ⟨w.heap.size, 0, none⟩) (by show w.heap.size < _; omega)).trans q0
    replace q1 := (hT'.cell (p := ⟨w.heap.size, 1, none⟩) (by show w.heap.size < _; omega)).trans q1
    replace q2 := (hT'.cell (p := ⟨w.heap.size, 2, none⟩) (by show w.heap.size < _; omega)).trans q2
    replace q3 := (hT'.cell (p := ⟨w.heap.size, 3, none⟩) (by show w.heap.size < _; omega)).trans q3
    replace q4 := (hT'.cell (p := ⟨w.heap.size, 4, none⟩) (by show w.heap.size < _; omega)).trans q4
    replace q5 := (hT'.cell (p := ⟨w.heap.size, 5, none⟩) (by show w.heap.size < _; omega)).trans q5
    replace q6 := (hT'.cell (p := ⟨w.heap.size, 6, none⟩) (by show w.heap.size < _; omega)).trans q6
    replace q7 := (hT'.cell (p := ⟨w.heap.size, 7, none⟩) (by show w.heap.size < _; omega)).trans q7
    replace q8 := (hT'.cell (p := ⟨w.heap.size, 8, none⟩) (by show w.heap.size < _; omega)).trans q8
    replace q9 := (hT'.cell (p := ⟨w.heap.size, 9, none⟩) (by show w.heap.size < _; omega)).trans q9
    replace q10 := (hT'.cell (p := ⟨w.heap.size, 10, none⟩) (by show w.heap.size < _; omega)).trans q10
    replace q11 := (hT'.cell (p := ⟨w.heap.size, 11, none⟩) (by show w.heap.size < _; omega)).trans q11
    replace hA0 := Nat.lt_of_lt_of_le hA0 hT'.size
    go_wp2_with fail
    exact runs_t3 r c i lo A n cc ts er w HX h0 hn hl Her wB hBB hA0 q0 q1 q2 q3 q4 q5 q6 q7 q8 q9 q10 q11 b5 x5 y5 l5 c50 c51 Hn5 Hz5


set_option maxRecDepth 100000 in
set_option maxHeartbeats 4000000 in
theorem runs_law (r : TR) (c i : Int) (lo : Nat) (A : Option Addr) (n cc : Nat) (ts : List R) (w : World) (hx : Ranges w lo A ts) (h0 : A = none → n = 0 ∧ cc = 0) (hn : Aside (ts.length = n)) (hl : n ≤ maxLen) :
    Calls Try.prog 5 #[bV r c i, .slice A n cc] w fun e w' => e = .returned (.bool true) ∧ Below w.heap.size w w' := by
  have hlong := fun (W : World) => long_any n W
  have hkn := fun (W : World) => known_any W
  have HX : Aside (Ranges w lo A ts) := hx
  clear hx
  unfold bV
  by_cases hlo : (150 < n ∧ n ≤ 1000) ∨ 1100 < n
  · rw [decide_eq_true hlo] at hlong
    clear hlo
    go_enter Try.func5, Try.ntmps5
    go_wp2_with fail
    refine (hlong _).mono ?_
    rintro e w0x ⟨rfl, rfl⟩
    go_wp2_with fail
    refine (hkn _).mono ?_
    rintro e w5 ⟨rfl, hb5⟩
    go_wp2
    go_ret
    exact ⟨rfl, (by (try show Below _ _ _); repeat (first | (with_reducible refine Below.setCell ?_ (by first | omega | (simp <;> omega)) _) | (with_reducible refine Below.alloc ?_ (by first | omega | (simp <;> omega)) _) | (with_reducible refine Below.drew ?_) | (with_reducible exact Below.refl _ _) | (with_reducible exact hb5) | (with_reducible refine below_call ?_ (by assumption) (by first | omega | (simp <;> omega))) | (with_reducible refine below_call ?_ (Drew.below (by assumption) _) (by first | omega | (simp <;> omega)))))⟩
  · rw [decide_eq_false hlo] at hlong
    have hsh : n ≤ 1100 := by omega
    clear hlo
    obtain ⟨er, her⟩ : ∃ er, errT r c i ts = er := ⟨_, rfl⟩
    have Her := Lib.hid her
    clear her
    go_enter Try.func5, Try.ntmps5
    refine wp_tail 2 (R := lrunTail2) (show lrunTail2 = dropC 2 (bodyC Try.f5) from rfl) ?_
    conv => arg 2; simp only [bodyC, Try.f5, Option.getD_some, dropC, mkC]
    go_wp2_with fail
    refine (hlong _).mono ?_
    rintro e w0x ⟨rfl, rfl⟩
    go_upto_region 3 with fail
    obtain ⟨E0, hNE0⟩ : ∃ X, X = w.alloc (.cells #[.int .i64 r.frost, .int .i64 r.thaw, .int .i64 r.gain, .int .i64 r.full, .int .i64 r.ice, .int .i64 r.most, .int .i64 r.melt, .int .i64 r.rlow, .int .i64 r.rhigh, .int .i64 r.pull, .int .i64 c, .int .i64 i] 29) := ⟨_, rfl⟩
    have hsE0 : E0.heap.size = w.heap.size + 1 := by rw [hNE0]; simp
    have hbE0 : Below w.heap.size w E0 := by rw [hNE0]; exact (Below.refl _ _).alloc (Nat.le_refl _) _
    have q0 : E0.cell? ⟨w.heap.size, 0, none⟩ = some (.int .i64 r.frost) := by rw [hNE0]; simp [go_sem]
    have q1 : E0.cell? ⟨w.heap.size, 1, none⟩ = some (.int .i64 r.thaw) := by rw [hNE0]; simp [go_sem]
    have q2 : E0.cell? ⟨w.heap.size, 2, none⟩ = some (.int .i64 r.gain) := by rw [hNE0]; simp [go_sem]
    have q3 : E0.cell? ⟨w.heap.size, 3, none⟩ = some (.int .i64 r.full) := by rw [hNE0]; simp [go_sem]
    have q4 : E0.cell? ⟨w.heap.size, 4, none⟩ = some (.int .i64 r.ice) := by rw [hNE0]; simp [go_sem]
    have q5 : E0.cell? ⟨w.heap.size, 5, none⟩ = some (.int .i64 r.most) := by rw [hNE0]; simp [go_sem]
    have q6 : E0.cell? ⟨w.heap.size, 6, none⟩ = some (.int .i64 r.melt) := by rw [hNE0]; simp [go_sem]
    have q7 : E0.cell? ⟨w.heap.size, 7, none⟩ = some (.int .i64 r.rlow) := by rw [hNE0]; simp [go_sem]
    have q8 : E0.cell? ⟨w.heap.size, 8, none⟩ = some (.int .i64 r.rhigh) := by rw [hNE0]; simp [go_sem]
    have q9 : E0.cell? ⟨w.heap.size, 9, none⟩ = some (.int .i64 r.pull) := by rw [hNE0]; simp [go_sem]
    have q10 : E0.cell? ⟨w.heap.size, 10, none⟩ = some (.int .i64 c) := by rw [hNE0]; simp [go_sem]
    have q11 : E0.cell? ⟨w.heap.size, 11, none⟩ = some (.int .i64 i) := by rw [hNE0]; simp [go_sem]
    rw [← hNE0]
    clear hNE0
    have hBWE : Below w.heap.size w E0 := hbE0
    clear hbE0
    go_wp2_with fail
    exact runs_t2 r c i lo A n cc ts er w HX h0 hn hsh Her E0 hBWE (by omega) q0 q1 q2 q3 q4 q5 q6 q7 q8 q9 q10 q11

end Go.Proofs.Ytlkecgjpmnganaa
