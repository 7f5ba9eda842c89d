/- spilelaw01.SpanFractions: the walk (nothing is too great). -/
import Derived.Test.YtfohdafijfjefaaKnown1
import Derived.Test.YtfohdafijfjefaaFracMath
import Derived.Test.YtfohdafijfjefaaAid
import Derived.StillTailTactics
set_option linter.unusedSimpArgs false
set_option linter.unusedVariables false
namespace Go.Proofs.Ytfohdafijfjefaa
open Go.RowKit Go.Shelf

set_option maxRecDepth 100000 in
set_option maxHeartbeats 4000000 in
theorem frac_good (a0 a1 b0 b1 n : Int) (ha0 : -32768 ≤ a0 ∧ a0 ≤ 32767) (ha1 : -32768 ≤ a1 ∧ a1 ≤ 32767) (hb0 : -32768 ≤ b0 ∧ b0 ≤ 32767) (hb1 : -32768 ≤ b1 ∧ b1 ≤ 32767) (hn : -2147483648 ≤ n ∧ n ≤ 2147483647) (h0 : a1 ≠ 0) (h3 : b1 ≠ 0) (x0 x1 y0 y1 : Int) (hx : makePartS a0 a1 = (⟨x0, x1⟩, 0)) (okx : okP ⟨x0, x1⟩ = true) (hxe : a0 * x1 = a1 * x0) (hx0 : -32768 ≤ x0 ∧ x0 ≤ 32768) (hx1 : 1 ≤ x1 ∧ x1 ≤ 32768) (hy : makePartS b0 b1 = (⟨y0, y1⟩, 0)) (oky : okP ⟨y0, y1⟩ = true) (hy0 : -32768 ≤ y0 ∧ y0 ≤ 32768) (hy1 : 1 ≤ y1 ∧ y1 ≤ 32768) (p0 p1 s0 s1 : Int) (hp : lowestS (x0 * y0) (x1 * y1) = (⟨p0, p1⟩, 0)) (hq : lowestS (x0 * y1 + y0 * x1) (x1 * y1) = (⟨s0, s1⟩, 0)) (v : Bool) (hv : (cdiv (n * x0) x1 == n * x0 / x1) = v) (w : World) :
    Calls Try.prog 10 #[.agg #[.int .i16 a0, .int .i16 a1], .agg #[.int .i16 b0, .int .i16 b1], .int .i32 n] w fun e w' => e = .returned (.bool true) ∧ Below w.heap.size w w' := by
  have h1 := fun W => MakePart_any a0 a1 W
  have h2 := fun W => MakePart_any b0 b1 W
  have hk := fun W => known1_any W
  rw [hx] at h1
  rw [hy] at h2
  have h4 := fun W => AddPart_any x0 x1 y0 y1 W
  have h5 := fun W => AddPart_any y0 y1 x0 x1 W
  have h6 := fun W => MulPart_any x0 x1 y0 y1 W
  have h7 := fun W => MulPart_any y0 y1 x0 x1 W
  have h8 := fun W => ComparePart_any x0 x1 y0 y1 W
  have h9 := fun W => ComparePart_any y0 y1 x0 x1 W
  have nxy : ¬ (okP ⟨x0, x1⟩ = false ∨ okP ⟨y0, y1⟩ = false) := by rw [okx, oky]; simp
  have nyx : ¬ (okP ⟨y0, y1⟩ = false ∨ okP ⟨x0, x1⟩ = false) := by rw [okx, oky]; simp
  rw [show addPartS ⟨x0, x1⟩ ⟨y0, y1⟩ = lowestS (x0 * y1 + y0 * x1) (x1 * y1) from if_neg nxy] at h4
  rw [show addPartS ⟨y0, y1⟩ ⟨x0, x1⟩ = lowestS (x0 * y1 + y0 * x1) (x1 * y1) from (if_neg nyx).trans (by simp only; rw [Int.add_comm, Int.mul_comm y1 x1])] at h5
  rw [show mulPartS ⟨x0, x1⟩ ⟨y0, y1⟩ = lowestS (x0 * y0) (x1 * y1) from if_neg nxy] at h6
  rw [show mulPartS ⟨y0, y1⟩ ⟨x0, x1⟩ = lowestS (x0 * y0) (x1 * y1) from (if_neg nyx).trans (by simp only; rw [Int.mul_comm y0 x0, Int.mul_comm y1 x1])] at h7
  rw [show comparePartS ⟨x0, x1⟩ ⟨y0, y1⟩ = (-cmpS (y0 * x1) (x0 * y1), 0) from (if_neg nxy).trans (by simp only; rw [cmp_swap])] at h8
  rw [show comparePartS ⟨y0, y1⟩ ⟨x0, x1⟩ = (cmpS (y0 * x1) (x0 * y1), 0) from if_neg nyx] at h9
  have hc : -1 ≤ cmpS (y0 * x1) (x0 * y1) ∧ cmpS (y0 * x1) (x0 * y1) ≤ 1 := by unfold cmpS; omega
  generalize cmpS (y0 * x1) (x0 * y1) = c at h8 h9 hc
  obtain ⟨m1, m2⟩ := prod_bd x0 a1 (by omega) (by omega)
  obtain ⟨m3, m4⟩ := prod_bd x1 a0 (by omega) (by omega)
  have hxm : (x0 * a1 != x1 * a0) = false := by
    rw [Int.mul_comm x0 a1, Int.mul_comm x1 a0, ← hxe]; simp
  rw [hp] at h6 h7
  rw [hq] at h4 h5
  have h10 := fun W => AddPart_any s0 s1 (-y0) y1 W
  have hback := add_back ⟨x0, x1⟩ ⟨y0, y1⟩ ⟨s0, s1⟩ okx oky hq
  have oks := (lowest_ok _ _ (by have := Int.mul_pos (show 0 < x1 by omega) (show 0 < y1 by omega); omega) _ hq).1
  have nsy : ¬ (okP ⟨s0, s1⟩ = false ∨ okP ⟨-y0, y1⟩ = false) := by rw [oks, okP_neg ⟨y0, y1⟩ oky]; simp
  rw [show addPartS ⟨s0, s1⟩ ⟨-y0, y1⟩ = (⟨x0, x1⟩, 0) from (if_neg nsy).trans hback] at h10
  have h11 := fun W => Of_any n x0 x1 W
  rw [of_small n ⟨x0, x1⟩ okx hn (by simp only; omega)] at h11
  have hof := of_is (n * x0) x1 hx1.1
  have hzb : -70368744177664 ≤ n * x0 ∧ n * x0 ≤ 70368744177664 := by
    have : (n * x0).natAbs ≤ 2147483648 * 32768 := by rw [Int.natAbs_mul]; exact Nat.mul_le_mul (by omega) (by omega)
    omega
  have hdb := div_bound (n * x0) x1 70368744177664 hx1.1 hzb
  simp only at h11
  generalize n * x0 / x1 = r0 at *
  generalize cdiv (n * x0) x1 = r1 at *
  obtain ⟨o1, o2, o3, o4, o5, o6, o7⟩ := hof
  have hv2 : ((n * x0).tmod x1 == 0) = v := by
    rw [← hv]
    by_cases e : r1 = r0
    · rw [beq_iff_eq.2 e, beq_iff_eq.2 (o7.1 e)]
    · rw [beq_eq_false_iff_ne.2 e, beq_eq_false_iff_ne.2 (fun h => e (o7.2 h))]
  have hx1n : ¬ x1 = 0 := by omega
  have hx1z : (x1 == 0) = false := by rw [beq_eq_false_iff_ne]; omega
  have hnw : IntKind.i64.wrap n = n := by rw [IntKind.wrap_i64]; omega
  have hmw : IntKind.i64.wrap (n * x0) = n * x0 := by rw [IntKind.wrap_i64]; omega
  have hmr0 : IntKind.i64.wrap (r0 * x1) = r0 * x1 := by rw [IntKind.wrap_i64]; omega
  have hmr1 : IntKind.i64.wrap (r1 * x1) = r1 * x1 := by rw [IntKind.wrap_i64]; omega
  have hmd : IntKind.i64.wrap (r1 - r0) = r1 - r0 := by rw [IntKind.wrap_i64]; omega
  simp only [RE, IE2] at h1 h2 h4 h5 h6 h7 h8 h9 h10 h11
  clear hx hy hxe hp hq nxy nyx nsy okx oky oks hback h0 h3 o7
  go_enter Try.func10, Try.ntmps10
  go_wp2_with fail
  refine (h1 _).mono ?_
  rintro e w1 ⟨rfl, hb1⟩
  have hz1 := hb1.size
  (try simp only [World.size_alloc, World.size_setCell, World.size_drew] at hz1)
  have f1_b0_0 : w1.cell? ⟨w.heap.size, 0, none⟩ = some (.int .i16 a0) := (hb1.cell (p := ⟨w.heap.size, 0, none⟩) (by show w.heap.size < _; first | omega | (simp only [World.size_alloc, World.size_setCell, World.size_drew]; omega))).trans (by simp [go_sem, cell_set])
  have f1_b0_1 : w1.cell? ⟨w.heap.size, 1, none⟩ = some (.int .i16 a1) := (hb1.cell (p := ⟨w.heap.size, 1, none⟩) (by show w.heap.size < _; first | omega | (simp only [World.size_alloc, World.size_setCell, World.size_drew]; omega))).trans (by simp [go_sem, cell_set])
  have f1_b1_0 : w1.cell? ⟨w.heap.size + 1, 0, none⟩ = some (.int .i16 b0) := (hb1.cell (p := ⟨w.heap.size + 1, 0, none⟩) (by show w.heap.size + 1 < _; first | omega | (simp only [World.size_alloc, World.size_setCell, World.size_drew]; omega))).trans (by simp [go_sem, cell_set])
  have f1_b1_1 : w1.cell? ⟨w.heap.size + 1, 1, none⟩ = some (.int .i16 b1) := (hb1.cell (p := ⟨w.heap.size + 1, 1, none⟩) (by show w.heap.size + 1 < _; first | omega | (simp only [World.size_alloc, World.size_setCell, World.size_drew]; omega))).trans (by simp [go_sem, cell_set])
  have hB1 : Below w.heap.size w w1 := (by (try show Below _ _ _); repeat (first | (with_reducible refine Below.setCell ?_ (by first | omega | (simp <;> omega)) _) | (with_reducible refine Below.alloc ?_ (by first | omega | (simp <;> omega)) _) | (with_reducible refine Below.drew ?_) | (with_reducible exact Below.refl _ _) | (with_reducible exact Below.refl _ _) | (with_reducible refine below_call ?_ (by assumption) (by first | omega | (simp <;> omega))) | (with_reducible refine below_call ?_ (Drew.below (by assumption) _) (by first | omega | (simp <;> omega)))))
  clear hb1 
  have l1_0 : w.heap.size < w1.heap.size := by omega
  have l1_1 : w.heap.size + 1 < w1.heap.size := by omega
  go_wp2_with fail
  refine (h2 _).mono ?_
  rintro e w2 ⟨rfl, hb2⟩
  have hz2 := hb2.size
  (try simp only [World.size_alloc, World.size_setCell, World.size_drew] at hz2)
  have f2_b0_0 := up1 hb2 (by omega) f1_b0_0
  have f2_b0_1 := up1 hb2 (by omega) f1_b0_1
  have f2_b1_0 := up1 hb2 (by omega) f1_b1_0
  have f2_b1_1 := up1 hb2 (by omega) f1_b1_1
  have f2_b2_0 : w2.cell? ⟨w1.heap.size, 0, none⟩ = some (.int .i64 x0) := (hb2.cell (p := ⟨w1.heap.size, 0, none⟩) (by show w1.heap.size < _; first | omega | (simp only [World.size_alloc, World.size_setCell, World.size_drew]; omega))).trans (by simp [go_sem, cell_set])
  have f2_b2_1 : w2.cell? ⟨w1.heap.size, 1, none⟩ = some (.int .i64 x1) := (hb2.cell (p := ⟨w1.heap.size, 1, none⟩) (by show w1.heap.size < _; first | omega | (simp only [World.size_alloc, World.size_setCell, World.size_drew]; omega))).trans (by simp [go_sem, cell_set])
  have hB2 : Below w.heap.size w w2 := (by (try show Below _ _ _); repeat (first | (with_reducible refine Below.setCell ?_ (by first | omega | (simp <;> omega)) _) | (with_reducible refine Below.alloc ?_ (by first | omega | (simp <;> omega)) _) | (with_reducible refine Below.drew ?_) | (with_reducible exact Below.refl _ _) | (with_reducible exact hB1) | (with_reducible refine below_call ?_ (by assumption) (by first | omega | (simp <;> omega))) | (with_reducible refine below_call ?_ (Drew.below (by assumption) _) (by first | omega | (simp <;> omega)))))
  clear hb2 hB1 f1_b0_0 f1_b0_1 f1_b1_0 f1_b1_1
  have l2_0 : w.heap.size < w2.heap.size := by omega
  have l2_1 : w.heap.size + 1 < w2.heap.size := by omega
  have l2_2 : w1.heap.size < w2.heap.size := by omega
  clear l1_0 l1_1
  go_wp2_with fail
  refine (h4 _).mono ?_
  rintro e w3 ⟨rfl, hb3⟩
  have hz3 := hb3.size
  (try simp only [World.size_alloc, World.size_setCell, World.size_drew] at hz3)
  have f3_b0_0 := up1 hb3 (by omega) f2_b0_0
  have f3_b0_1 := up1 hb3 (by omega) f2_b0_1
  have f3_b1_0 := up1 hb3 (by omega) f2_b1_0
  have f3_b1_1 := up1 hb3 (by omega) f2_b1_1
  have f3_b2_0 := up1 hb3 (by omega) f2_b2_0
  have f3_b2_1 := up1 hb3 (by omega) f2_b2_1
  have f3_b3_0 : w3.cell? ⟨w2.heap.size, 0, none⟩ = some (.int .i64 y0) := (hb3.cell (p := ⟨w2.heap.size, 0, none⟩) (by show w2.heap.size < _; first | omega | (simp only [World.size_alloc, World.size_setCell, World.size_drew]; omega))).trans (by simp [go_sem, cell_set])
  have f3_b3_1 : w3.cell? ⟨w2.heap.size, 1, none⟩ = some (.int .i64 y1) := (hb3.cell (p := ⟨w2.heap.size, 1, none⟩) (by show w2.heap.size < _; first | omega | (simp only [World.size_alloc, World.size_setCell, World.size_drew]; omega))).trans (by simp [go_sem, cell_set])
  have hB3 : Below w.heap.size w w3 := (by (try show Below _ _ _); repeat (first | (with_reducible refine Below.setCell ?_ (by first | omega | (simp <;> omega)) _) | (with_reducible refine Below.alloc ?_ (by first | omega | (simp <;> omega)) _) | (with_reducible refine Below.drew ?_) | (with_reducible exact Below.refl _ _) | (with_reducible exact hB2) | (with_reducible refine below_call ?_ (by assumption) (by first | omega | (simp <;> omega))) | (with_reducible refine below_call ?_ (Drew.below (by assumption) _) (by first | omega | (simp <;> omega)))))
  clear hb3 hB2 f2_b0_0 f2_b0_1 f2_b1_0 f2_b1_1 f2_b2_0 f2_b2_1
  have l3_0 : w.heap.size < w3.heap.size := by omega
  have l3_1 : w.heap.size + 1 < w3.heap.size := by omega
  have l3_2 : w1.heap.size < w3.heap.size := by omega
  have l3_3 : w2.heap.size < w3.heap.size := by omega
  clear l2_0 l2_1 l2_2
  go_wp2_with fail
  refine (h5 _).mono ?_
  rintro e w4 ⟨rfl, hb4⟩
  have hz4 := hb4.size
  (try simp only [World.size_alloc, World.size_setCell, World.size_drew] at hz4)
  have f4_b0_0 := up1 hb4 (by omega) f3_b0_0
  have f4_b0_1 := up1 hb4 (by omega) f3_b0_1
  have f4_b1_0 := up1 hb4 (by omega) f3_b1_0
  have f4_b1_1 := up1 hb4 (by omega) f3_b1_1
  have f4_b2_0 := up1 hb4 (by omega) f3_b2_0
  have f4_b2_1 := up1 hb4 (by omega) f3_b2_1
  have f4_b3_0 := up1 hb4 (by omega) f3_b3_0
  have f4_b3_1 := up1 hb4 (by omega) f3_b3_1
  have f4_b4_0 : w4.cell? ⟨w3.heap.size, 0, none⟩ = some (.int .i64 s0) := (hb4.cell (p := ⟨w3.heap.size, 0, none⟩) (by show w3.heap.size < _; first | omega | (simp only [World.size_alloc, World.size_setCell, World.size_drew]; omega))).trans (by simp [go_sem, cell_set])
  have f4_b4_1 : w4.cell? ⟨w3.heap.size, 1, none⟩ = some (.int .i64 s1) := (hb4.cell (p := ⟨w3.heap.size, 1, none⟩) (by show w3.heap.size < _; first | omega | (simp only [World.size_alloc, World.size_setCell, World.size_drew]; omega))).trans (by simp [go_sem, cell_set])
  have hB4 : Below w.heap.size w w4 := (by (try show Below _ _ _); repeat (first | (with_reducible refine Below.setCell ?_ (by first | omega | (simp <;> omega)) _) | (with_reducible refine Below.alloc ?_ (by first | omega | (simp <;> omega)) _) | (with_reducible refine Below.drew ?_) | (with_reducible exact Below.refl _ _) | (with_reducible exact hB3) | (with_reducible refine below_call ?_ (by assumption) (by first | omega | (simp <;> omega))) | (with_reducible refine below_call ?_ (Drew.below (by assumption) _) (by first | omega | (simp <;> omega)))))
  clear hb4 hB3 f3_b0_0 f3_b0_1 f3_b1_0 f3_b1_1 f3_b2_0 f3_b2_1 f3_b3_0 f3_b3_1
  have l4_0 : w.heap.size < w4.heap.size := by omega
  have l4_1 : w.heap.size + 1 < w4.heap.size := by omega
  have l4_2 : w1.heap.size < w4.heap.size := by omega
  have l4_3 : w2.heap.size < w4.heap.size := by omega
  have l4_4 : w3.heap.size < w4.heap.size := by omega
  clear l3_0 l3_1 l3_2 l3_3
  go_wp2_with fail
  refine (h6 _).mono ?_
  rintro e w5 ⟨rfl, hb5⟩
  have hz5 := hb5.size
  (try simp only [World.size_alloc, World.size_setCell, World.size_drew] at hz5)
  have f5_b0_0 := up1 hb5 (by omega) f4_b0_0
  have f5_b0_1 := up1 hb5 (by omega) f4_b0_1
  have f5_b1_0 := up1 hb5 (by omega) f4_b1_0
  have f5_b1_1 := up1 hb5 (by omega) f4_b1_1
  have f5_b2_0 := up1 hb5 (by omega) f4_b2_0
  have f5_b2_1 := up1 hb5 (by omega) f4_b2_1
  have f5_b3_0 := up1 hb5 (by omega) f4_b3_0
  have f5_b3_1 := up1 hb5 (by omega) f4_b3_1
  have f5_b4_0 := up1 hb5 (by omega) f4_b4_0
  have f5_b4_1 := up1 hb5 (by omega) f4_b4_1
  have f5_b5_0 : w5.cell? ⟨w4.heap.size, 0, none⟩ = some (.int .i64 s0) := (hb5.cell (p := ⟨w4.heap.size, 0, none⟩) (by show w4.heap.size < _; first | omega | (simp only [World.size_alloc, World.size_setCell, World.size_drew]; omega))).trans (by simp [go_sem, cell_set])
  have f5_b5_1 : w5.cell? ⟨w4.heap.size, 1, none⟩ = some (.int .i64 s1) := (hb5.cell (p := ⟨w4.heap.size, 1, none⟩) (by show w4.heap.size < _; first | omega | (simp only [World.size_alloc, World.size_setCell, World.size_drew]; omega))).trans (by simp [go_sem, cell_set])
  have hB5 : Below w.heap.size w w5 := (by (try show Below _ _ _); repeat (first | (with_reducible refine Below.setCell ?_ (by first | omega | (simp <;> omega)) _) | (with_reducible refine Below.alloc ?_ (by first | omega | (simp <;> omega)) _) | (with_reducible refine Below.drew ?_) | (with_reducible exact Below.refl _ _) | (with_reducible exact hB4) | (with_reducible refine below_call ?_ (by assumption) (by first | omega | (simp <;> omega))) | (with_reducible refine below_call ?_ (Drew.below (by assumption) _) (by first | omega | (simp <;> omega)))))
  clear hb5 hB4 f4_b0_0 f4_b0_1 f4_b1_0 f4_b1_1 f4_b2_0 f4_b2_1 f4_b3_0 f4_b3_1 f4_b4_0 f4_b4_1
  have l5_0 : w.heap.size < w5.heap.size := by omega
  have l5_1 : w.heap.size + 1 < w5.heap.size := by omega
  have l5_2 : w1.heap.size < w5.heap.size := by omega
  have l5_3 : w2.heap.size < w5.heap.size := by omega
  have l5_4 : w3.heap.size < w5.heap.size := by omega
  have l5_5 : w4.heap.size < w5.heap.size := by omega
  clear l4_0 l4_1 l4_2 l4_3 l4_4
  go_wp2_with fail
  refine (h7 _).mono ?_
  rintro e w6 ⟨rfl, hb6⟩
  have hz6 := hb6.size
  (try simp only [World.size_alloc, World.size_setCell, World.size_drew] at hz6)
  have f6_b0_0 := up1 hb6 (by omega) f5_b0_0
  have f6_b0_1 := up1 hb6 (by omega) f5_b0_1
  have f6_b1_0 := up1 hb6 (by omega) f5_b1_0
  have f6_b1_1 := up1 hb6 (by omega) f5_b1_1
  have f6_b2_0 := up1 hb6 (by omega) f5_b2_0
  have f6_b2_1 := up1 hb6 (by omega) f5_b2_1
  have f6_b3_0 := up1 hb6 (by omega) f5_b3_0
  have f6_b3_1 := up1 hb6 (by omega) f5_b3_1
  have f6_b4_0 := up1 hb6 (by omega) f5_b4_0
  have f6_b4_1 := up1 hb6 (by omega) f5_b4_1
  have f6_b5_0 := up1 hb6 (by omega) f5_b5_0
  have f6_b5_1 := up1 hb6 (by omega) f5_b5_1
  have f6_b6_0 : w6.cell? ⟨w5.heap.size, 0, none⟩ = some (.int .i64 p0) := (hb6.cell (p := ⟨w5.heap.size, 0, none⟩) (by show w5.heap.size < _; first | omega | (simp only [World.size_alloc, World.size_setCell, World.size_drew]; omega))).trans (by simp [go_sem, cell_set])
  have f6_b6_1 : w6.cell? ⟨w5.heap.size, 1, none⟩ = some (.int .i64 p1) := (hb6.cell (p := ⟨w5.heap.size, 1, none⟩) (by show w5.heap.size < _; first | omega | (simp only [World.size_alloc, World.size_setCell, World.size_drew]; omega))).trans (by simp [go_sem, cell_set])
  have hB6 : Below w.heap.size w w6 := (by (try show Below _ _ _); repeat (first | (with_reducible refine Below.setCell ?_ (by first | omega | (simp <;> omega)) _) | (with_reducible refine Below.alloc ?_ (by first | omega | (simp <;> omega)) _) | (with_reducible refine Below.drew ?_) | (with_reducible exact Below.refl _ _) | (with_reducible exact hB5) | (with_reducible refine below_call ?_ (by assumption) (by first | omega | (simp <;> omega))) | (with_reducible refine below_call ?_ (Drew.below (by assumption) _) (by first | omega | (simp <;> omega)))))
  clear hb6 hB5 f5_b0_0 f5_b0_1 f5_b1_0 f5_b1_1 f5_b2_0 f5_b2_1 f5_b3_0 f5_b3_1 f5_b4_0 f5_b4_1 f5_b5_0 f5_b5_1
  have l6_0 : w.heap.size < w6.heap.size := by omega
  have l6_1 : w.heap.size + 1 < w6.heap.size := by omega
  have l6_2 : w1.heap.size < w6.heap.size := by omega
  have l6_3 : w2.heap.size < w6.heap.size := by omega
  have l6_4 : w3.heap.size < w6.heap.size := by omega
  have l6_5 : w4.heap.size < w6.heap.size := by omega
  have l6_6 : w5.heap.size < w6.heap.size := by omega
  clear l5_0 l5_1 l5_2 l5_3 l5_4 l5_5
  go_wp2_with fail
  refine (h8 _).mono ?_
  rintro e w7 ⟨rfl, hb7⟩
  have hz7 := hb7.size
  (try simp only [World.size_alloc, World.size_setCell, World.size_drew] at hz7)
  have f7_b0_0 := up1 hb7 (by omega) f6_b0_0
  have f7_b0_1 := up1 hb7 (by omega) f6_b0_1
  have f7_b1_0 := up1 hb7 (by omega) f6_b1_0
  have f7_b1_1 := up1 hb7 (by omega) f6_b1_1
  have f7_b2_0 := up1 hb7 (by omega) f6_b2_0
  have f7_b2_1 := up1 hb7 (by omega) f6_b2_1
  have f7_b3_0 := up1 hb7 (by omega) f6_b3_0
  have f7_b3_1 := up1 hb7 (by omega) f6_b3_1
  have f7_b4_0 := up1 hb7 (by omega) f6_b4_0
  have f7_b4_1 := up1 hb7 (by omega) f6_b4_1
  have f7_b5_0 := up1 hb7 (by omega) f6_b5_0
  have f7_b5_1 := up1 hb7 (by omega) f6_b5_1
  have f7_b6_0 := up1 hb7 (by omega) f6_b6_0
  have f7_b6_1 := up1 hb7 (by omega) f6_b6_1
  have f7_b7_0 : w7.cell? ⟨w6.heap.size, 0, none⟩ = some (.int .i64 p0) := (hb7.cell (p := ⟨w6.heap.size, 0, none⟩) (by show w6.heap.size < _; first | omega | (simp only [World.size_alloc, World.size_setCell, World.size_drew]; omega))).trans (by simp [go_sem, cell_set])
  have f7_b7_1 : w7.cell? ⟨w6.heap.size, 1, none⟩ = some (.int .i64 p1) := (hb7.cell (p := ⟨w6.heap.size, 1, none⟩) (by show w6.heap.size < _; first | omega | (simp only [World.size_alloc, World.size_setCell, World.size_drew]; omega))).trans (by simp [go_sem, cell_set])
  have hB7 : Below w.heap.size w w7 := (by (try show Below _ _ _); repeat (first | (with_reducible refine Below.setCell ?_ (by first | omega | (simp <;> omega)) _) | (with_reducible refine Below.alloc ?_ (by first | omega | (simp <;> omega)) _) | (with_reducible refine Below.drew ?_) | (with_reducible exact Below.refl _ _) | (with_reducible exact hB6) | (with_reducible refine below_call ?_ (by assumption) (by first | omega | (simp <;> omega))) | (with_reducible refine below_call ?_ (Drew.below (by assumption) _) (by first | omega | (simp <;> omega)))))
  clear hb7 hB6 f6_b0_0 f6_b0_1 f6_b1_0 f6_b1_1 f6_b2_0 f6_b2_1 f6_b3_0 f6_b3_1 f6_b4_0 f6_b4_1 f6_b5_0 f6_b5_1 f6_b6_0 f6_b6_1
  have l7_0 : w.heap.size < w7.heap.size := by omega
  have l7_1 : w.heap.size + 1 < w7.heap.size := by omega
  have l7_2 : w1.heap.size < w7.heap.size := by omega
  have l7_3 : w2.heap.size < w7.heap.size := by omega
  have l7_4 : w3.heap.size < w7.heap.size := by omega
  have l7_5 : w4.heap.size < w7.heap.size := by omega
  have l7_6 : w5.heap.size < w7.heap.size := by omega
  have l7_7 : w6.heap.size < w7.heap.size := by omega
  clear l6_0 l6_1 l6_2 l6_3 l6_4 l6_5 l6_6
  go_wp2_with fail
  refine (h9 _).mono ?_
  rintro e w8 ⟨rfl, hb8⟩
  have hz8 := hb8.size
  (try simp only [World.size_alloc, World.size_setCell, World.size_drew] at hz8)
  have f8_b0_0 := up0 hb8 (by omega) f7_b0_0
  have f8_b0_1 := up0 hb8 (by omega) f7_b0_1
  have f8_b1_0 := up0 hb8 (by omega) f7_b1_0
  have f8_b1_1 := up0 hb8 (by omega) f7_b1_1
  have f8_b2_0 := up0 hb8 (by omega) f7_b2_0
  have f8_b2_1 := up0 hb8 (by omega) f7_b2_1
  have f8_b3_0 := up0 hb8 (by omega) f7_b3_0
  have f8_b3_1 := up0 hb8 (by omega) f7_b3_1
  have f8_b4_0 := up0 hb8 (by omega) f7_b4_0
  have f8_b4_1 := up0 hb8 (by omega) f7_b4_1
  have f8_b5_0 := up0 hb8 (by omega) f7_b5_0
  have f8_b5_1 := up0 hb8 (by omega) f7_b5_1
  have f8_b6_0 := up0 hb8 (by omega) f7_b6_0
  have f8_b6_1 := up0 hb8 (by omega) f7_b6_1
  have f8_b7_0 := up0 hb8 (by omega) f7_b7_0
  have f8_b7_1 := up0 hb8 (by omega) f7_b7_1
  have hB8 : Below w.heap.size w w8 := (by (try show Below _ _ _); repeat (first | (with_reducible refine Below.setCell ?_ (by first | omega | (simp <;> omega)) _) | (with_reducible refine Below.alloc ?_ (by first | omega | (simp <;> omega)) _) | (with_reducible refine Below.drew ?_) | (with_reducible exact Below.refl _ _) | (with_reducible exact hB7) | (with_reducible refine below_call ?_ (by assumption) (by first | omega | (simp <;> omega))) | (with_reducible refine below_call ?_ (Drew.below (by assumption) _) (by first | omega | (simp <;> omega)))))
  clear hb8 hB7 f7_b0_0 f7_b0_1 f7_b1_0 f7_b1_1 f7_b2_0 f7_b2_1 f7_b3_0 f7_b3_1 f7_b4_0 f7_b4_1 f7_b5_0 f7_b5_1 f7_b6_0 f7_b6_1 f7_b7_0 f7_b7_1
  have l8_0 : w.heap.size < w8.heap.size := by omega
  have l8_1 : w.heap.size + 1 < w8.heap.size := by omega
  have l8_2 : w1.heap.size < w8.heap.size := by omega
  have l8_3 : w2.heap.size < w8.heap.size := by omega
  have l8_4 : w3.heap.size < w8.heap.size := by omega
  have l8_5 : w4.heap.size < w8.heap.size := by omega
  have l8_6 : w5.heap.size < w8.heap.size := by omega
  have l8_7 : w6.heap.size < w8.heap.size := by omega
  clear l7_0 l7_1 l7_2 l7_3 l7_4 l7_5 l7_6 l7_7
  go_wp2_with fail
  refine (h10 _).mono ?_
  rintro e w9 ⟨rfl, hb9⟩
  have hz9 := hb9.size
  (try simp only [World.size_alloc, World.size_setCell, World.size_drew] at hz9)
  have f9_b0_0 := up0 hb9 (by omega) f8_b0_0
  have f9_b0_1 := up0 hb9 (by omega) f8_b0_1
  have f9_b1_0 := up0 hb9 (by omega) f8_b1_0
  have f9_b1_1 := up0 hb9 (by omega) f8_b1_1
  have f9_b2_0 := up0 hb9 (by omega) f8_b2_0
  have f9_b2_1 := up0 hb9 (by omega) f8_b2_1
  have f9_b3_0 := up0 hb9 (by omega) f8_b3_0
  have f9_b3_1 := up0 hb9 (by omega) f8_b3_1
  have f9_b4_0 := up0 hb9 (by omega) f8_b4_0
  have f9_b4_1 := up0 hb9 (by omega) f8_b4_1
  have f9_b5_0 := up0 hb9 (by omega) f8_b5_0
  have f9_b5_1 := up0 hb9 (by omega) f8_b5_1
  have f9_b6_0 := up0 hb9 (by omega) f8_b6_0
  have f9_b6_1 := up0 hb9 (by omega) f8_b6_1
  have f9_b7_0 := up0 hb9 (by omega) f8_b7_0
  have f9_b7_1 := up0 hb9 (by omega) f8_b7_1
  have hB9 : Below w.heap.size w w9 := (by (try show Below _ _ _); repeat (first | (with_reducible refine Below.setCell ?_ (by first | omega | (simp <;> omega)) _) | (with_reducible refine Below.alloc ?_ (by first | omega | (simp <;> omega)) _) | (with_reducible refine Below.drew ?_) | (with_reducible exact Below.refl _ _) | (with_reducible exact hB8) | (with_reducible refine below_call ?_ (by assumption) (by first | omega | (simp <;> omega))) | (with_reducible refine below_call ?_ (Drew.below (by assumption) _) (by first | omega | (simp <;> omega)))))
  clear hb9 hB8 f8_b0_0 f8_b0_1 f8_b1_0 f8_b1_1 f8_b2_0 f8_b2_1 f8_b3_0 f8_b3_1 f8_b4_0 f8_b4_1 f8_b5_0 f8_b5_1 f8_b6_0 f8_b6_1 f8_b7_0 f8_b7_1
  have l9_0 : w.heap.size < w9.heap.size := by omega
  have l9_1 : w.heap.size + 1 < w9.heap.size := by omega
  have l9_2 : w1.heap.size < w9.heap.size := by omega
  have l9_3 : w2.heap.size < w9.heap.size := by omega
  have l9_4 : w3.heap.size < w9.heap.size := by omega
  have l9_5 : w4.heap.size < w9.heap.size := by omega
  have l9_6 : w5.heap.size < w9.heap.size := by omega
  have l9_7 : w6.heap.size < w9.heap.size := by omega
  clear l8_0 l8_1 l8_2 l8_3 l8_4 l8_5 l8_6 l8_7
  go_wp2_with fail
  refine (h11 _).mono ?_
  rintro e w10 ⟨rfl, hb10⟩
  have hz10 := hb10.size
  (try simp only [World.size_alloc, World.size_setCell, World.size_drew] at hz10)
  have f10_b0_0 := up1 hb10 (by omega) f9_b0_0
  have f10_b0_1 := up1 hb10 (by omega) f9_b0_1
  have f10_b1_0 := up1 hb10 (by omega) f9_b1_0
  have f10_b1_1 := up1 hb10 (by omega) f9_b1_1
  have f10_b2_0 := up1 hb10 (by omega) f9_b2_0
  have f10_b2_1 := up1 hb10 (by omega) f9_b2_1
  have f10_b3_0 := up1 hb10 (by omega) f9_b3_0
  have f10_b3_1 := up1 hb10 (by omega) f9_b3_1
  have f10_b4_0 := up1 hb10 (by omega) f9_b4_0
  have f10_b4_1 := up1 hb10 (by omega) f9_b4_1
  have f10_b5_0 := up1 hb10 (by omega) f9_b5_0
  have f10_b5_1 := up1 hb10 (by omega) f9_b5_1
  have f10_b6_0 := up1 hb10 (by omega) f9_b6_0
  have f10_b6_1 := up1 hb10 (by omega) f9_b6_1
  have f10_b7_0 := up1 hb10 (by omega) f9_b7_0
  have f10_b7_1 := up1 hb10 (by omega) f9_b7_1
  have f10_b8_0 : w10.cell? ⟨w9.heap.size, 0, none⟩ = some (.int .i64 x0) := (hb10.cell (p := ⟨w9.heap.size, 0, none⟩) (by show w9.heap.size < _; first | omega | (simp only [World.size_alloc, World.size_setCell, World.size_drew]; omega))).trans (by simp [go_sem, cell_set])
  have f10_b8_1 : w10.cell? ⟨w9.heap.size, 1, none⟩ = some (.int .i64 x1) := (hb10.cell (p := ⟨w9.heap.size, 1, none⟩) (by show w9.heap.size < _; first | omega | (simp only [World.size_alloc, World.size_setCell, World.size_drew]; omega))).trans (by simp [go_sem, cell_set])
  have hB10 : Below w.heap.size w w10 := (by (try show Below _ _ _); repeat (first | (with_reducible refine Below.setCell ?_ (by first | omega | (simp <;> omega)) _) | (with_reducible refine Below.alloc ?_ (by first | omega | (simp <;> omega)) _) | (with_reducible refine Below.drew ?_) | (with_reducible exact Below.refl _ _) | (with_reducible exact hB9) | (with_reducible refine below_call ?_ (by assumption) (by first | omega | (simp <;> omega))) | (with_reducible refine below_call ?_ (Drew.below (by assumption) _) (by first | omega | (simp <;> omega)))))
  clear hb10 hB9 f9_b0_0 f9_b0_1 f9_b1_0 f9_b1_1 f9_b2_0 f9_b2_1 f9_b3_0 f9_b3_1 f9_b4_0 f9_b4_1 f9_b5_0 f9_b5_1 f9_b6_0 f9_b6_1 f9_b7_0 f9_b7_1
  have l10_0 : w.heap.size < w10.heap.size := by omega
  have l10_1 : w.heap.size + 1 < w10.heap.size := by omega
  have l10_2 : w1.heap.size < w10.heap.size := by omega
  have l10_3 : w2.heap.size < w10.heap.size := by omega
  have l10_4 : w3.heap.size < w10.heap.size := by omega
  have l10_5 : w4.heap.size < w10.heap.size := by omega
  have l10_6 : w5.heap.size < w10.heap.size := by omega
  have l10_7 : w6.heap.size < w10.heap.size := by omega
  have l10_8 : w9.heap.size < w10.heap.size := by omega
  clear l9_0 l9_1 l9_2 l9_3 l9_4 l9_5 l9_6 l9_7
  go_wp2_with fail
  generalize hq11 : World.alloc w10 _ = w11
  have hb11 := froze hq11
  clear hq11
  have hz11 := hb11.size
  (try simp only [World.size_alloc, World.size_setCell, World.size_drew] at hz11)
  have f11_b0_0 := up1 hb11 (by omega) f10_b0_0
  have f11_b0_1 := up1 hb11 (by omega) f10_b0_1
  have f11_b1_0 := up1 hb11 (by omega) f10_b1_0
  have f11_b1_1 := up1 hb11 (by omega) f10_b1_1
  have f11_b2_0 := up1 hb11 (by omega) f10_b2_0
  have f11_b2_1 := up1 hb11 (by omega) f10_b2_1
  have f11_b3_0 := up1 hb11 (by omega) f10_b3_0
  have f11_b3_1 := up1 hb11 (by omega) f10_b3_1
  have f11_b4_0 := up1 hb11 (by omega) f10_b4_0
  have f11_b4_1 := up1 hb11 (by omega) f10_b4_1
  have f11_b5_0 := up1 hb11 (by omega) f10_b5_0
  have f11_b5_1 := up1 hb11 (by omega) f10_b5_1
  have f11_b6_0 := up1 hb11 (by omega) f10_b6_0
  have f11_b6_1 := up1 hb11 (by omega) f10_b6_1
  have f11_b7_0 := up1 hb11 (by omega) f10_b7_0
  have f11_b7_1 := up1 hb11 (by omega) f10_b7_1
  have f11_b8_0 := up1 hb11 (by omega) f10_b8_0
  have f11_b8_1 := up1 hb11 (by omega) f10_b8_1
  have f11_b9_0 : w11.cell? ⟨w10.heap.size, 0, none⟩ = some (.int .i64 r0) := (hb11.cell (p := ⟨w10.heap.size, 0, none⟩) (by show w10.heap.size < _; first | omega | (simp only [World.size_alloc, World.size_setCell, World.size_drew]; omega))).trans (by simp [go_sem, cell_set])
  have f11_b9_1 : w11.cell? ⟨w10.heap.size, 1, none⟩ = some (.int .i64 r1) := (hb11.cell (p := ⟨w10.heap.size, 1, none⟩) (by show w10.heap.size < _; first | omega | (simp only [World.size_alloc, World.size_setCell, World.size_drew]; omega))).trans (by simp [go_sem, cell_set])
  have hB11 : Below w.heap.size w w11 := (by (try show Below _ _ _); repeat (first | (with_reducible refine Below.setCell ?_ (by first | omega | (simp <;> omega)) _) | (with_reducible refine Below.alloc ?_ (by first | omega | (simp <;> omega)) _) | (with_reducible refine Below.drew ?_) | (with_reducible exact Below.refl _ _) | (with_reducible exact hB10) | (with_reducible refine below_call ?_ (by assumption) (by first | omega | (simp <;> omega))) | (with_reducible refine below_call ?_ (Drew.below (by assumption) _) (by first | omega | (simp <;> omega)))))
  clear hb11 hB10 f10_b0_0 f10_b0_1 f10_b1_0 f10_b1_1 f10_b2_0 f10_b2_1 f10_b3_0 f10_b3_1 f10_b4_0 f10_b4_1 f10_b5_0 f10_b5_1 f10_b6_0 f10_b6_1 f10_b7_0 f10_b7_1 f10_b8_0 f10_b8_1
  have l11_0 : w.heap.size < w11.heap.size := by omega
  have l11_1 : w.heap.size + 1 < w11.heap.size := by omega
  have l11_2 : w1.heap.size < w11.heap.size := by omega
  have l11_3 : w2.heap.size < w11.heap.size := by omega
  have l11_4 : w3.heap.size < w11.heap.size := by omega
  have l11_5 : w4.heap.size < w11.heap.size := by omega
  have l11_6 : w5.heap.size < w11.heap.size := by omega
  have l11_7 : w6.heap.size < w11.heap.size := by omega
  have l11_8 : w9.heap.size < w11.heap.size := by omega
  have l11_9 : w10.heap.size < w11.heap.size := by omega
  clear l10_0 l10_1 l10_2 l10_3 l10_4 l10_5 l10_6 l10_7 l10_8
  go_wp2_with fail
  go_still_tail 61, (by kernel_rfl)
  change wpList _ _ _ _ _ w11.drew
  go_wp2_with fail
  refine (hk _).mono ?_
  rintro e w12 ⟨rfl, hb12⟩
  go_wp2
  go_ret
  exact ⟨rfl, (by (try show Below _ _ _); repeat (first | (with_reducible refine Below.setCell ?_ (by first | omega | (simp <;> omega)) _) | (with_reducible refine Below.alloc ?_ (by first | omega | (simp <;> omega)) _) | (with_reducible refine Below.drew ?_) | (with_reducible exact Below.refl _ _) | (with_reducible exact hB11) | (with_reducible refine below_call ?_ (by assumption) (by first | omega | (simp <;> omega))) | (with_reducible refine below_call ?_ (Drew.below (by assumption) _) (by first | omega | (simp <;> omega)))))⟩

end Go.Proofs.Ytfohdafijfjefaa
