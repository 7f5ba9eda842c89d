/- spilelaw01.SpanParts: the walk (bada). -/
import Derived.Test.YtfohdafijfjefaaKnown1
import Derived.Test.YtfohdafijfjefaaRef5
import Derived.Test.YtfohdafijfjefaaRef6
import Derived.Test.YtfohdafijfjefaaOpen
set_option linter.unusedSimpArgs false
set_option linter.unusedVariables false
namespace Go.Proofs.Ytfohdafijfjefaa
open Go.RowKit Go.Shelf

set_option maxRecDepth 100000 in
set_option maxHeartbeats 4000000 in
theorem parts_bada (a0 a1 b0 b1 n0 n1 n2 : Int) (ha : okP ⟨a0, a1⟩ = false) (w : World) :
    Calls Try.prog 8 #[.agg #[.int .i64 a0, .int .i64 a1], .agg #[.int .i64 b0, .int .i64 b1], .agg #[.int .i64 n0, .int .i64 n1, .int .i64 n2]] w fun e w' => e = .returned (.bool true) ∧ Below w.heap.size w w' := by
  have h1 := fun W => MakePart_any n0 n1 W
  have h2 := fun W => refMakePart_any n0 n1 W
  have h3 := fun W => Of_any n2 a0 a1 W
  have h4 := fun W => refOf_any n2 a0 a1 W
  have h5 := fun W => ComparePart_any a0 a1 b0 b1 W
  have h6 := fun W => AddPart_any a0 a1 b0 b1 W
  have h7 := fun W => MulPart_any a0 a1 b0 b1 W
  have hPa := fun W => refPart_any a0 a1 W
  have hPb := fun W => refPart_any b0 b1 W
  have hk := fun W => known1_any W
  generalize makePartS n0 n1 = x at h1 h2
  generalize ofS n2 ⟨a0, a1⟩ = y at h3 h4
  obtain ⟨⟨x0, x1⟩, x2⟩ := x
  obtain ⟨⟨y0, y1⟩, y2⟩ := y
  rw [ha] at hPa
  rw [show comparePartS ⟨a0, a1⟩ ⟨b0, b1⟩ = (0, 2) from if_pos (.inl ha)] at h5
  rw [show addPartS ⟨a0, a1⟩ ⟨b0, b1⟩ = (⟨0, 0⟩, 2) from if_pos (.inl ha)] at h6
  rw [show mulPartS ⟨a0, a1⟩ ⟨b0, b1⟩ = (⟨0, 0⟩, 2) from if_pos (.inl ha)] at h7
  simp only [RE, IE2] at h1 h2 h3 h4 h5 h6 h7
  clear ha
  go_enter Try.func8, Try.ntmps8
  go_wp2_with fail
  refine (h1 _).mono ?_
  rintro e w1 ⟨rfl, hb1⟩
  have hz1 := hb1.size
  (try simp only [World.size_alloc, World.size_setCell, World.size_drew] at hz1)
  have f1_b0_0 : w1.cell? ⟨w.heap.size, 0, none⟩ = some (.int .i64 a0) := (hb1.cell (p := ⟨w.heap.size, 0, none⟩) (by show w.heap.size < _; first | omega | (simp only [World.size_alloc, World.size_setCell, World.size_drew]; omega))).trans (by simp [go_sem, cell_set])
  have f1_b0_1 : w1.cell? ⟨w.heap.size, 1, none⟩ = some (.int .i64 a1) := (hb1.cell (p := ⟨w.heap.size, 1, none⟩) (by show w.heap.size < _; first | omega | (simp only [World.size_alloc, World.size_setCell, World.size_drew]; omega))).trans (by simp [go_sem, cell_set])
  have f1_b1_0 : w1.cell? ⟨w.heap.size + 1, 0, none⟩ = some (.int .i64 b0) := (hb1.cell (p := ⟨w.heap.size + 1, 0, none⟩) (by show w.heap.size + 1 < _; first | omega | (simp only [World.size_alloc, World.size_setCell, World.size_drew]; omega))).trans (by simp [go_sem, cell_set])
  have f1_b1_1 : w1.cell? ⟨w.heap.size + 1, 1, none⟩ = some (.int .i64 b1) := (hb1.cell (p := ⟨w.heap.size + 1, 1, none⟩) (by show w.heap.size + 1 < _; first | omega | (simp only [World.size_alloc, World.size_setCell, World.size_drew]; omega))).trans (by simp [go_sem, cell_set])
  have f1_b2_0 : w1.cell? ⟨w.heap.size + 1 + 1, 0, none⟩ = some (.int .i64 n0) := (hb1.cell (p := ⟨w.heap.size + 1 + 1, 0, none⟩) (by show w.heap.size + 1 + 1 < _; first | omega | (simp only [World.size_alloc, World.size_setCell, World.size_drew]; omega))).trans (by simp [go_sem, cell_set])
  have f1_b2_1 : w1.cell? ⟨w.heap.size + 1 + 1, 1, none⟩ = some (.int .i64 n1) := (hb1.cell (p := ⟨w.heap.size + 1 + 1, 1, none⟩) (by show w.heap.size + 1 + 1 < _; first | omega | (simp only [World.size_alloc, World.size_setCell, World.size_drew]; omega))).trans (by simp [go_sem, cell_set])
  have f1_b2_2 : w1.cell? ⟨w.heap.size + 1 + 1, 2, none⟩ = some (.int .i64 n2) := (hb1.cell (p := ⟨w.heap.size + 1 + 1, 2, none⟩) (by show w.heap.size + 1 + 1 < _; first | omega | (simp only [World.size_alloc, World.size_setCell, World.size_drew]; omega))).trans (by simp [go_sem, cell_set])
  have hB1 : Below w.heap.size w w1 := (by (try show Below _ _ _); repeat (first | (with_reducible refine Below.setCell ?_ (by first | omega | (simp <;> omega)) _) | (with_reducible refine Below.alloc ?_ (by first | omega | (simp <;> omega)) _) | (with_reducible refine Below.drew ?_) | (with_reducible exact Below.refl _ _) | (with_reducible exact Below.refl _ _) | (with_reducible refine below_call ?_ (by assumption) (by first | omega | (simp <;> omega))) | (with_reducible refine below_call ?_ (Drew.below (by assumption) _) (by first | omega | (simp <;> omega)))))
  clear hb1 
  have l1_0 : w.heap.size < w1.heap.size := by omega
  have l1_1 : w.heap.size + 1 < w1.heap.size := by omega
  have l1_2 : w.heap.size + 1 + 1 < w1.heap.size := by omega
  go_wp2_with fail
  refine (h2 _).mono ?_
  rintro e w2 ⟨rfl, hb2⟩
  have hz2 := hb2.size
  (try simp only [World.size_alloc, World.size_setCell, World.size_drew] at hz2)
  have f2_b0_0 := up1 hb2 (by omega) f1_b0_0
  have f2_b0_1 := up1 hb2 (by omega) f1_b0_1
  have f2_b1_0 := up1 hb2 (by omega) f1_b1_0
  have f2_b1_1 := up1 hb2 (by omega) f1_b1_1
  have f2_b2_0 := up1 hb2 (by omega) f1_b2_0
  have f2_b2_1 := up1 hb2 (by omega) f1_b2_1
  have f2_b2_2 := up1 hb2 (by omega) f1_b2_2
  have f2_b3_0 : w2.cell? ⟨w1.heap.size, 0, none⟩ = some (.int .i64 x0) := (hb2.cell (p := ⟨w1.heap.size, 0, none⟩) (by show w1.heap.size < _; first | omega | (simp only [World.size_alloc, World.size_setCell, World.size_drew]; omega))).trans (by simp [go_sem, cell_set])
  have f2_b3_1 : w2.cell? ⟨w1.heap.size, 1, none⟩ = some (.int .i64 x1) := (hb2.cell (p := ⟨w1.heap.size, 1, none⟩) (by show w1.heap.size < _; first | omega | (simp only [World.size_alloc, World.size_setCell, World.size_drew]; omega))).trans (by simp [go_sem, cell_set])
  have hB2 : Below w.heap.size w w2 := (by (try show Below _ _ _); repeat (first | (with_reducible refine Below.setCell ?_ (by first | omega | (simp <;> omega)) _) | (with_reducible refine Below.alloc ?_ (by first | omega | (simp <;> omega)) _) | (with_reducible refine Below.drew ?_) | (with_reducible exact Below.refl _ _) | (with_reducible exact hB1) | (with_reducible refine below_call ?_ (by assumption) (by first | omega | (simp <;> omega))) | (with_reducible refine below_call ?_ (Drew.below (by assumption) _) (by first | omega | (simp <;> omega)))))
  clear hb2 hB1 f1_b0_0 f1_b0_1 f1_b1_0 f1_b1_1 f1_b2_0 f1_b2_1 f1_b2_2
  have l2_0 : w.heap.size < w2.heap.size := by omega
  have l2_1 : w.heap.size + 1 < w2.heap.size := by omega
  have l2_2 : w.heap.size + 1 + 1 < w2.heap.size := by omega
  have l2_3 : w1.heap.size < w2.heap.size := by omega
  clear l1_0 l1_1 l1_2
  go_wp2_with fail
  refine (h3 _).mono ?_
  rintro e w3 ⟨rfl, hb3⟩
  have hz3 := hb3.size
  (try simp only [World.size_alloc, World.size_setCell, World.size_drew] at hz3)
  have f3_b0_0 := up1 hb3 (by omega) f2_b0_0
  have f3_b0_1 := up1 hb3 (by omega) f2_b0_1
  have f3_b1_0 := up1 hb3 (by omega) f2_b1_0
  have f3_b1_1 := up1 hb3 (by omega) f2_b1_1
  have f3_b2_0 := up1 hb3 (by omega) f2_b2_0
  have f3_b2_1 := up1 hb3 (by omega) f2_b2_1
  have f3_b2_2 := up1 hb3 (by omega) f2_b2_2
  have f3_b3_0 := up1 hb3 (by omega) f2_b3_0
  have f3_b3_1 := up1 hb3 (by omega) f2_b3_1
  have f3_b4_0 : w3.cell? ⟨w2.heap.size, 0, none⟩ = some (.int .i64 x0) := (hb3.cell (p := ⟨w2.heap.size, 0, none⟩) (by show w2.heap.size < _; first | omega | (simp only [World.size_alloc, World.size_setCell, World.size_drew]; omega))).trans (by simp [go_sem, cell_set])
  have f3_b4_1 : w3.cell? ⟨w2.heap.size, 1, none⟩ = some (.int .i64 x1) := (hb3.cell (p := ⟨w2.heap.size, 1, none⟩) (by show w2.heap.size < _; first | omega | (simp only [World.size_alloc, World.size_setCell, World.size_drew]; omega))).trans (by simp [go_sem, cell_set])
  have hB3 : Below w.heap.size w w3 := (by (try show Below _ _ _); repeat (first | (with_reducible refine Below.setCell ?_ (by first | omega | (simp <;> omega)) _) | (with_reducible refine Below.alloc ?_ (by first | omega | (simp <;> omega)) _) | (with_reducible refine Below.drew ?_) | (with_reducible exact Below.refl _ _) | (with_reducible exact hB2) | (with_reducible refine below_call ?_ (by assumption) (by first | omega | (simp <;> omega))) | (with_reducible refine below_call ?_ (Drew.below (by assumption) _) (by first | omega | (simp <;> omega)))))
  clear hb3 hB2 f2_b0_0 f2_b0_1 f2_b1_0 f2_b1_1 f2_b2_0 f2_b2_1 f2_b2_2 f2_b3_0 f2_b3_1
  have l3_0 : w.heap.size < w3.heap.size := by omega
  have l3_1 : w.heap.size + 1 < w3.heap.size := by omega
  have l3_2 : w.heap.size + 1 + 1 < w3.heap.size := by omega
  have l3_3 : w1.heap.size < w3.heap.size := by omega
  have l3_4 : w2.heap.size < w3.heap.size := by omega
  clear l2_0 l2_1 l2_2 l2_3
  go_wp2_with fail
  refine (h4 _).mono ?_
  rintro e w4 ⟨rfl, hb4⟩
  have hz4 := hb4.size
  (try simp only [World.size_alloc, World.size_setCell, World.size_drew] at hz4)
  have f4_b0_0 := up1 hb4 (by omega) f3_b0_0
  have f4_b0_1 := up1 hb4 (by omega) f3_b0_1
  have f4_b1_0 := up1 hb4 (by omega) f3_b1_0
  have f4_b1_1 := up1 hb4 (by omega) f3_b1_1
  have f4_b2_0 := up1 hb4 (by omega) f3_b2_0
  have f4_b2_1 := up1 hb4 (by omega) f3_b2_1
  have f4_b2_2 := up1 hb4 (by omega) f3_b2_2
  have f4_b3_0 := up1 hb4 (by omega) f3_b3_0
  have f4_b3_1 := up1 hb4 (by omega) f3_b3_1
  have f4_b4_0 := up1 hb4 (by omega) f3_b4_0
  have f4_b4_1 := up1 hb4 (by omega) f3_b4_1
  have f4_b5_0 : w4.cell? ⟨w3.heap.size, 0, none⟩ = some (.int .i64 y0) := (hb4.cell (p := ⟨w3.heap.size, 0, none⟩) (by show w3.heap.size < _; first | omega | (simp only [World.size_alloc, World.size_setCell, World.size_drew]; omega))).trans (by simp [go_sem, cell_set])
  have f4_b5_1 : w4.cell? ⟨w3.heap.size, 1, none⟩ = some (.int .i64 y1) := (hb4.cell (p := ⟨w3.heap.size, 1, none⟩) (by show w3.heap.size < _; first | omega | (simp only [World.size_alloc, World.size_setCell, World.size_drew]; omega))).trans (by simp [go_sem, cell_set])
  have hB4 : Below w.heap.size w w4 := (by (try show Below _ _ _); repeat (first | (with_reducible refine Below.setCell ?_ (by first | omega | (simp <;> omega)) _) | (with_reducible refine Below.alloc ?_ (by first | omega | (simp <;> omega)) _) | (with_reducible refine Below.drew ?_) | (with_reducible exact Below.refl _ _) | (with_reducible exact hB3) | (with_reducible refine below_call ?_ (by assumption) (by first | omega | (simp <;> omega))) | (with_reducible refine below_call ?_ (Drew.below (by assumption) _) (by first | omega | (simp <;> omega)))))
  clear hb4 hB3 f3_b0_0 f3_b0_1 f3_b1_0 f3_b1_1 f3_b2_0 f3_b2_1 f3_b2_2 f3_b3_0 f3_b3_1 f3_b4_0 f3_b4_1
  have l4_0 : w.heap.size < w4.heap.size := by omega
  have l4_1 : w.heap.size + 1 < w4.heap.size := by omega
  have l4_2 : w.heap.size + 1 + 1 < w4.heap.size := by omega
  have l4_3 : w1.heap.size < w4.heap.size := by omega
  have l4_4 : w2.heap.size < w4.heap.size := by omega
  have l4_5 : w3.heap.size < w4.heap.size := by omega
  clear l3_0 l3_1 l3_2 l3_3 l3_4
  go_wp2_with fail
  refine (h5 _).mono ?_
  rintro e w5 ⟨rfl, hb5⟩
  have hz5 := hb5.size
  (try simp only [World.size_alloc, World.size_setCell, World.size_drew] at hz5)
  have f5_b0_0 := up1 hb5 (by omega) f4_b0_0
  have f5_b0_1 := up1 hb5 (by omega) f4_b0_1
  have f5_b1_0 := up1 hb5 (by omega) f4_b1_0
  have f5_b1_1 := up1 hb5 (by omega) f4_b1_1
  have f5_b2_0 := up1 hb5 (by omega) f4_b2_0
  have f5_b2_1 := up1 hb5 (by omega) f4_b2_1
  have f5_b2_2 := up1 hb5 (by omega) f4_b2_2
  have f5_b3_0 := up1 hb5 (by omega) f4_b3_0
  have f5_b3_1 := up1 hb5 (by omega) f4_b3_1
  have f5_b4_0 := up1 hb5 (by omega) f4_b4_0
  have f5_b4_1 := up1 hb5 (by omega) f4_b4_1
  have f5_b5_0 := up1 hb5 (by omega) f4_b5_0
  have f5_b5_1 := up1 hb5 (by omega) f4_b5_1
  have f5_b6_0 : w5.cell? ⟨w4.heap.size, 0, none⟩ = some (.int .i64 y0) := (hb5.cell (p := ⟨w4.heap.size, 0, none⟩) (by show w4.heap.size < _; first | omega | (simp only [World.size_alloc, World.size_setCell, World.size_drew]; omega))).trans (by simp [go_sem, cell_set])
  have f5_b6_1 : w5.cell? ⟨w4.heap.size, 1, none⟩ = some (.int .i64 y1) := (hb5.cell (p := ⟨w4.heap.size, 1, none⟩) (by show w4.heap.size < _; first | omega | (simp only [World.size_alloc, World.size_setCell, World.size_drew]; omega))).trans (by simp [go_sem, cell_set])
  have hB5 : Below w.heap.size w w5 := (by (try show Below _ _ _); repeat (first | (with_reducible refine Below.setCell ?_ (by first | omega | (simp <;> omega)) _) | (with_reducible refine Below.alloc ?_ (by first | omega | (simp <;> omega)) _) | (with_reducible refine Below.drew ?_) | (with_reducible exact Below.refl _ _) | (with_reducible exact hB4) | (with_reducible refine below_call ?_ (by assumption) (by first | omega | (simp <;> omega))) | (with_reducible refine below_call ?_ (Drew.below (by assumption) _) (by first | omega | (simp <;> omega)))))
  clear hb5 hB4 f4_b0_0 f4_b0_1 f4_b1_0 f4_b1_1 f4_b2_0 f4_b2_1 f4_b2_2 f4_b3_0 f4_b3_1 f4_b4_0 f4_b4_1 f4_b5_0 f4_b5_1
  have l5_0 : w.heap.size < w5.heap.size := by omega
  have l5_1 : w.heap.size + 1 < w5.heap.size := by omega
  have l5_2 : w.heap.size + 1 + 1 < w5.heap.size := by omega
  have l5_3 : w1.heap.size < w5.heap.size := by omega
  have l5_4 : w2.heap.size < w5.heap.size := by omega
  have l5_5 : w3.heap.size < w5.heap.size := by omega
  have l5_6 : w4.heap.size < w5.heap.size := by omega
  clear l4_0 l4_1 l4_2 l4_3 l4_4 l4_5
  go_wp2_with fail
  refine (h6 _).mono ?_
  rintro e w6 ⟨rfl, hb6⟩
  have hz6 := hb6.size
  (try simp only [World.size_alloc, World.size_setCell, World.size_drew] at hz6)
  have f6_b0_0 := up0 hb6 (by omega) f5_b0_0
  have f6_b0_1 := up0 hb6 (by omega) f5_b0_1
  have f6_b1_0 := up0 hb6 (by omega) f5_b1_0
  have f6_b1_1 := up0 hb6 (by omega) f5_b1_1
  have f6_b2_0 := up0 hb6 (by omega) f5_b2_0
  have f6_b2_1 := up0 hb6 (by omega) f5_b2_1
  have f6_b2_2 := up0 hb6 (by omega) f5_b2_2
  have f6_b3_0 := up0 hb6 (by omega) f5_b3_0
  have f6_b3_1 := up0 hb6 (by omega) f5_b3_1
  have f6_b4_0 := up0 hb6 (by omega) f5_b4_0
  have f6_b4_1 := up0 hb6 (by omega) f5_b4_1
  have f6_b5_0 := up0 hb6 (by omega) f5_b5_0
  have f6_b5_1 := up0 hb6 (by omega) f5_b5_1
  have f6_b6_0 := up0 hb6 (by omega) f5_b6_0
  have f6_b6_1 := up0 hb6 (by omega) f5_b6_1
  have hB6 : Below w.heap.size w w6 := (by (try show Below _ _ _); repeat (first | (with_reducible refine Below.setCell ?_ (by first | omega | (simp <;> omega)) _) | (with_reducible refine Below.alloc ?_ (by first | omega | (simp <;> omega)) _) | (with_reducible refine Below.drew ?_) | (with_reducible exact Below.refl _ _) | (with_reducible exact hB5) | (with_reducible refine below_call ?_ (by assumption) (by first | omega | (simp <;> omega))) | (with_reducible refine below_call ?_ (Drew.below (by assumption) _) (by first | omega | (simp <;> omega)))))
  clear hb6 hB5 f5_b0_0 f5_b0_1 f5_b1_0 f5_b1_1 f5_b2_0 f5_b2_1 f5_b2_2 f5_b3_0 f5_b3_1 f5_b4_0 f5_b4_1 f5_b5_0 f5_b5_1 f5_b6_0 f5_b6_1
  have l6_0 : w.heap.size < w6.heap.size := by omega
  have l6_1 : w.heap.size + 1 < w6.heap.size := by omega
  have l6_2 : w.heap.size + 1 + 1 < w6.heap.size := by omega
  have l6_3 : w1.heap.size < w6.heap.size := by omega
  have l6_4 : w2.heap.size < w6.heap.size := by omega
  have l6_5 : w3.heap.size < w6.heap.size := by omega
  have l6_6 : w4.heap.size < w6.heap.size := by omega
  clear l5_0 l5_1 l5_2 l5_3 l5_4 l5_5 l5_6
  go_wp2_with fail
  refine (h7 _).mono ?_
  rintro e w7 ⟨rfl, hb7⟩
  have hz7 := hb7.size
  (try simp only [World.size_alloc, World.size_setCell, World.size_drew] at hz7)
  have f7_b0_0 := up1 hb7 (by omega) f6_b0_0
  have f7_b0_1 := up1 hb7 (by omega) f6_b0_1
  have f7_b1_0 := up1 hb7 (by omega) f6_b1_0
  have f7_b1_1 := up1 hb7 (by omega) f6_b1_1
  have f7_b2_0 := up1 hb7 (by omega) f6_b2_0
  have f7_b2_1 := up1 hb7 (by omega) f6_b2_1
  have f7_b2_2 := up1 hb7 (by omega) f6_b2_2
  have f7_b3_0 := up1 hb7 (by omega) f6_b3_0
  have f7_b3_1 := up1 hb7 (by omega) f6_b3_1
  have f7_b4_0 := up1 hb7 (by omega) f6_b4_0
  have f7_b4_1 := up1 hb7 (by omega) f6_b4_1
  have f7_b5_0 := up1 hb7 (by omega) f6_b5_0
  have f7_b5_1 := up1 hb7 (by omega) f6_b5_1
  have f7_b6_0 := up1 hb7 (by omega) f6_b6_0
  have f7_b6_1 := up1 hb7 (by omega) f6_b6_1
  have f7_b7_0 : w7.cell? ⟨w6.heap.size, 0, none⟩ = some (.int .i64 0) := (hb7.cell (p := ⟨w6.heap.size, 0, none⟩) (by show w6.heap.size < _; first | omega | (simp only [World.size_alloc, World.size_setCell, World.size_drew]; omega))).trans (by simp [go_sem, cell_set])
  have f7_b7_1 : w7.cell? ⟨w6.heap.size, 1, none⟩ = some (.int .i64 0) := (hb7.cell (p := ⟨w6.heap.size, 1, none⟩) (by show w6.heap.size < _; first | omega | (simp only [World.size_alloc, World.size_setCell, World.size_drew]; omega))).trans (by simp [go_sem, cell_set])
  have hB7 : Below w.heap.size w w7 := (by (try show Below _ _ _); repeat (first | (with_reducible refine Below.setCell ?_ (by first | omega | (simp <;> omega)) _) | (with_reducible refine Below.alloc ?_ (by first | omega | (simp <;> omega)) _) | (with_reducible refine Below.drew ?_) | (with_reducible exact Below.refl _ _) | (with_reducible exact hB6) | (with_reducible refine below_call ?_ (by assumption) (by first | omega | (simp <;> omega))) | (with_reducible refine below_call ?_ (Drew.below (by assumption) _) (by first | omega | (simp <;> omega)))))
  clear hb7 hB6 f6_b0_0 f6_b0_1 f6_b1_0 f6_b1_1 f6_b2_0 f6_b2_1 f6_b2_2 f6_b3_0 f6_b3_1 f6_b4_0 f6_b4_1 f6_b5_0 f6_b5_1 f6_b6_0 f6_b6_1
  have l7_0 : w.heap.size < w7.heap.size := by omega
  have l7_1 : w.heap.size + 1 < w7.heap.size := by omega
  have l7_2 : w.heap.size + 1 + 1 < w7.heap.size := by omega
  have l7_3 : w1.heap.size < w7.heap.size := by omega
  have l7_4 : w2.heap.size < w7.heap.size := by omega
  have l7_5 : w3.heap.size < w7.heap.size := by omega
  have l7_6 : w4.heap.size < w7.heap.size := by omega
  have l7_7 : w6.heap.size < w7.heap.size := by omega
  clear l6_0 l6_1 l6_2 l6_3 l6_4 l6_5 l6_6
  go_wp2_with fail
  refine (hPa _).mono ?_
  rintro e w8 ⟨rfl, hb8⟩
  have hz8 := hb8.size
  (try simp only [World.size_alloc, World.size_setCell, World.size_drew] at hz8)
  have f8_b0_0 := up1 hb8 (by omega) f7_b0_0
  have f8_b0_1 := up1 hb8 (by omega) f7_b0_1
  have f8_b1_0 := up1 hb8 (by omega) f7_b1_0
  have f8_b1_1 := up1 hb8 (by omega) f7_b1_1
  have f8_b2_0 := up1 hb8 (by omega) f7_b2_0
  have f8_b2_1 := up1 hb8 (by omega) f7_b2_1
  have f8_b2_2 := up1 hb8 (by omega) f7_b2_2
  have f8_b3_0 := up1 hb8 (by omega) f7_b3_0
  have f8_b3_1 := up1 hb8 (by omega) f7_b3_1
  have f8_b4_0 := up1 hb8 (by omega) f7_b4_0
  have f8_b4_1 := up1 hb8 (by omega) f7_b4_1
  have f8_b5_0 := up1 hb8 (by omega) f7_b5_0
  have f8_b5_1 := up1 hb8 (by omega) f7_b5_1
  have f8_b6_0 := up1 hb8 (by omega) f7_b6_0
  have f8_b6_1 := up1 hb8 (by omega) f7_b6_1
  have f8_b7_0 := up1 hb8 (by omega) f7_b7_0
  have f8_b7_1 := up1 hb8 (by omega) f7_b7_1
  have f8_b8_0 : w8.cell? ⟨w7.heap.size, 0, none⟩ = some (.int .i64 0) := (hb8.cell (p := ⟨w7.heap.size, 0, none⟩) (by show w7.heap.size < _; first | omega | (simp only [World.size_alloc, World.size_setCell, World.size_drew]; omega))).trans (by simp [go_sem, cell_set])
  have f8_b8_1 : w8.cell? ⟨w7.heap.size, 1, none⟩ = some (.int .i64 0) := (hb8.cell (p := ⟨w7.heap.size, 1, none⟩) (by show w7.heap.size < _; first | omega | (simp only [World.size_alloc, World.size_setCell, World.size_drew]; omega))).trans (by simp [go_sem, cell_set])
  have hB8 : Below w.heap.size w w8 := (by (try show Below _ _ _); repeat (first | (with_reducible refine Below.setCell ?_ (by first | omega | (simp <;> omega)) _) | (with_reducible refine Below.alloc ?_ (by first | omega | (simp <;> omega)) _) | (with_reducible refine Below.drew ?_) | (with_reducible exact Below.refl _ _) | (with_reducible exact hB7) | (with_reducible refine below_call ?_ (by assumption) (by first | omega | (simp <;> omega))) | (with_reducible refine below_call ?_ (Drew.below (by assumption) _) (by first | omega | (simp <;> omega)))))
  clear hb8 hB7 f7_b0_0 f7_b0_1 f7_b1_0 f7_b1_1 f7_b2_0 f7_b2_1 f7_b2_2 f7_b3_0 f7_b3_1 f7_b4_0 f7_b4_1 f7_b5_0 f7_b5_1 f7_b6_0 f7_b6_1 f7_b7_0 f7_b7_1
  have l8_0 : w.heap.size < w8.heap.size := by omega
  have l8_1 : w.heap.size + 1 < w8.heap.size := by omega
  have l8_2 : w.heap.size + 1 + 1 < w8.heap.size := by omega
  have l8_3 : w1.heap.size < w8.heap.size := by omega
  have l8_4 : w2.heap.size < w8.heap.size := by omega
  have l8_5 : w3.heap.size < w8.heap.size := by omega
  have l8_6 : w4.heap.size < w8.heap.size := by omega
  have l8_7 : w6.heap.size < w8.heap.size := by omega
  have l8_8 : w7.heap.size < w8.heap.size := by omega
  clear l7_0 l7_1 l7_2 l7_3 l7_4 l7_5 l7_6 l7_7
  go_wp2_with fail
  refine (hk _).mono ?_
  rintro e w9 ⟨rfl, hb9⟩
  have hz9 := hb9.size
  (try simp only [World.size_alloc, World.size_setCell, World.size_drew] at hz9)
  have f9_b0_0 := up0 hb9 (by omega) f8_b0_0
  have f9_b0_1 := up0 hb9 (by omega) f8_b0_1
  have f9_b1_0 := up0 hb9 (by omega) f8_b1_0
  have f9_b1_1 := up0 hb9 (by omega) f8_b1_1
  have f9_b2_0 := up0 hb9 (by omega) f8_b2_0
  have f9_b2_1 := up0 hb9 (by omega) f8_b2_1
  have f9_b2_2 := up0 hb9 (by omega) f8_b2_2
  have f9_b3_0 := up0 hb9 (by omega) f8_b3_0
  have f9_b3_1 := up0 hb9 (by omega) f8_b3_1
  have f9_b4_0 := up0 hb9 (by omega) f8_b4_0
  have f9_b4_1 := up0 hb9 (by omega) f8_b4_1
  have f9_b5_0 := up0 hb9 (by omega) f8_b5_0
  have f9_b5_1 := up0 hb9 (by omega) f8_b5_1
  have f9_b6_0 := up0 hb9 (by omega) f8_b6_0
  have f9_b6_1 := up0 hb9 (by omega) f8_b6_1
  have f9_b7_0 := up0 hb9 (by omega) f8_b7_0
  have f9_b7_1 := up0 hb9 (by omega) f8_b7_1
  have f9_b8_0 := up0 hb9 (by omega) f8_b8_0
  have f9_b8_1 := up0 hb9 (by omega) f8_b8_1
  have hB9 : Below w.heap.size w w9 := (by (try show Below _ _ _); repeat (first | (with_reducible refine Below.setCell ?_ (by first | omega | (simp <;> omega)) _) | (with_reducible refine Below.alloc ?_ (by first | omega | (simp <;> omega)) _) | (with_reducible refine Below.drew ?_) | (with_reducible exact Below.refl _ _) | (with_reducible exact hB8) | (with_reducible refine below_call ?_ (by assumption) (by first | omega | (simp <;> omega))) | (with_reducible refine below_call ?_ (Drew.below (by assumption) _) (by first | omega | (simp <;> omega)))))
  clear hb9 hB8 f8_b0_0 f8_b0_1 f8_b1_0 f8_b1_1 f8_b2_0 f8_b2_1 f8_b2_2 f8_b3_0 f8_b3_1 f8_b4_0 f8_b4_1 f8_b5_0 f8_b5_1 f8_b6_0 f8_b6_1 f8_b7_0 f8_b7_1 f8_b8_0 f8_b8_1
  have l9_0 : w.heap.size < w9.heap.size := by omega
  have l9_1 : w.heap.size + 1 < w9.heap.size := by omega
  have l9_2 : w.heap.size + 1 + 1 < w9.heap.size := by omega
  have l9_3 : w1.heap.size < w9.heap.size := by omega
  have l9_4 : w2.heap.size < w9.heap.size := by omega
  have l9_5 : w3.heap.size < w9.heap.size := by omega
  have l9_6 : w4.heap.size < w9.heap.size := by omega
  have l9_7 : w6.heap.size < w9.heap.size := by omega
  have l9_8 : w7.heap.size < w9.heap.size := by omega
  clear l8_0 l8_1 l8_2 l8_3 l8_4 l8_5 l8_6 l8_7 l8_8
  go_wp2
  go_ret
  exact ⟨rfl, (by (try show Below _ _ _); repeat (first | (with_reducible refine Below.setCell ?_ (by first | omega | (simp <;> omega)) _) | (with_reducible refine Below.alloc ?_ (by first | omega | (simp <;> omega)) _) | (with_reducible refine Below.drew ?_) | (with_reducible exact Below.refl _ _) | (with_reducible exact hB9) | (with_reducible refine below_call ?_ (by assumption) (by first | omega | (simp <;> omega))) | (with_reducible refine below_call ?_ (Drew.below (by assumption) _) (by first | omega | (simp <;> omega)))))⟩

end Go.Proofs.Ytfohdafijfjefaa
