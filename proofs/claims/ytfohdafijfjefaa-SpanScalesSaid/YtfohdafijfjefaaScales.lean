/- spilelaw01.SpanScales: the walk. -/
import Derived.Test.YtfohdafijfjefaaKnown1
import Derived.Test.YtfohdafijfjefaaRef1c
import Derived.Test.YtfohdafijfjefaaSpan2
import Derived.Test.YtfohdafijfjefaaOpen
set_option linter.unusedSimpArgs false
set_option linter.unusedVariables false
namespace Go.Proofs.Ytfohdafijfjefaa
open Go.RowKit Go.Shelf

set_option maxRecDepth 100000 in
set_option maxHeartbeats 2000000 in
theorem scales_walk (a0 a1 b0 b1 p q : Int) (w : World) :
    Calls Try.prog 3 #[.agg #[.int .i64 a0, .int .i64 a1], .agg #[.int .i64 b0, .int .i64 b1], .agg #[.int .i64 p, .int .i64 q]] w fun e w' => e = .returned (.bool true) ∧ Below w.heap.size w w' := by
  have h1 := fun W => scale_any a0 a1 p q W
  have h2 := fun W => refScale_any a0 a1 p q W
  have h3 := fun W => Times_any a0 a1 b0 b1 W
  have h4 := fun W => refTimes_any a0 a1 b0 b1 W
  have h5 := fun W => Over_any a0 a1 b0 b1 W
  have h6 := fun W => refOver_any a0 a1 b0 b1 W
  have h7 := fun W => known1_any W
  generalize scaleS ⟨a0, a1⟩ p q = x at h1 h2
  generalize timesS ⟨a0, a1⟩ ⟨b0, b1⟩ = y at h3 h4
  generalize overS' ⟨a0, a1⟩ ⟨b0, b1⟩ = z at h5 h6
  obtain ⟨⟨x0, x1⟩, x2⟩ := x
  obtain ⟨⟨y0, y1⟩, y2⟩ := y
  obtain ⟨⟨z0, z1⟩, z2⟩ := z
  simp only [RE] at h1 h2 h3 h4 h5 h6
  go_enter Try.func3, Try.ntmps3
  go_wp2_with fail
  refine (h1 _).mono ?_
  rintro e w1 ⟨rfl, hb1⟩
  have hz1 := hb1.size
  simp at hz1
  have f1_a0 : w1.cell? ⟨w.heap.size, 0, none⟩ = some (.int .i64 a0) := (hb1.cell (by simp <;> omega)).trans (by simp [go_sem])
  have f1_a1 : w1.cell? ⟨w.heap.size, 1, none⟩ = some (.int .i64 a1) := (hb1.cell (by simp <;> omega)).trans (by simp [go_sem])
  have f1_b0 : w1.cell? ⟨w.heap.size + 1, 0, none⟩ = some (.int .i64 b0) := (hb1.cell (by simp <;> omega)).trans (by simp [go_sem])
  have f1_b1 : w1.cell? ⟨w.heap.size + 1, 1, none⟩ = some (.int .i64 b1) := (hb1.cell (by simp <;> omega)).trans (by simp [go_sem])
  have f1_p : w1.cell? ⟨w.heap.size + 1 + 1, 0, none⟩ = some (.int .i64 p) := (hb1.cell (by simp <;> omega)).trans (by simp [go_sem])
  have f1_q : w1.cell? ⟨w.heap.size + 1 + 1, 1, none⟩ = some (.int .i64 q) := (hb1.cell (by simp <;> omega)).trans (by simp [go_sem])
  have hB1 : Below w.heap.size w w1 := (by (try show Below _ _ _); repeat (first | (with_reducible refine Below.setCell ?_ (by first | omega | (simp <;> omega)) _) | (with_reducible refine Below.alloc ?_ (by first | omega | (simp <;> omega)) _) | (with_reducible refine Below.drew ?_) | (with_reducible exact Below.refl _ _) | (with_reducible exact Below.refl _ _) | (with_reducible refine below_call ?_ (by assumption) (by first | omega | (simp <;> omega))) | (with_reducible refine below_call ?_ (Drew.below (by assumption) _) (by first | omega | (simp <;> omega)))))
  have l1_0 : w.heap.size < w1.heap.size := by omega
  have l1_1 : w.heap.size + 1 < w1.heap.size := by omega
  have l1_2 : w.heap.size + 1 + 1 < w1.heap.size := by omega
  clear hb1
  go_wp2_with fail
  refine (h2 _).mono ?_
  rintro e w2 ⟨rfl, hb2⟩
  have hz2 := hb2.size
  simp at hz2
  have f2_a0 := up1 hb2 (by omega) f1_a0
  have f2_a1 := up1 hb2 (by omega) f1_a1
  have f2_b0 := up1 hb2 (by omega) f1_b0
  have f2_b1 := up1 hb2 (by omega) f1_b1
  have f2_p := up1 hb2 (by omega) f1_p
  have f2_q := up1 hb2 (by omega) f1_q
  have f2_r10 : w2.cell? ⟨w1.heap.size, 0, none⟩ = some (.int .i64 x0) := (hb2.cell (by simp)).trans (by simp [go_sem])
  have f2_r11 : w2.cell? ⟨w1.heap.size, 1, none⟩ = some (.int .i64 x1) := (hb2.cell (by simp)).trans (by simp [go_sem])
  have hB2 : Below w.heap.size w w2 := (by (try show Below _ _ _); repeat (first | (with_reducible refine Below.setCell ?_ (by first | omega | (simp <;> omega)) _) | (with_reducible refine Below.alloc ?_ (by first | omega | (simp <;> omega)) _) | (with_reducible refine Below.drew ?_) | (with_reducible exact Below.refl _ _) | (with_reducible exact hB1) | (with_reducible refine below_call ?_ (by assumption) (by first | omega | (simp <;> omega))) | (with_reducible refine below_call ?_ (Drew.below (by assumption) _) (by first | omega | (simp <;> omega)))))
  clear hb2 hB1 f1_a0 f1_a1 f1_b0 f1_b1 f1_p f1_q
  have l2_0 : w.heap.size < w2.heap.size := by omega
  have l2_1 : w.heap.size + 1 < w2.heap.size := by omega
  have l2_2 : w.heap.size + 1 + 1 < w2.heap.size := by omega
  have l2_3 : w1.heap.size < w2.heap.size := by omega
  go_wp2_with fail
  refine (h3 _).mono ?_
  rintro e w3 ⟨rfl, hb3⟩
  have hz3 := hb3.size
  simp at hz3
  have f3_a0 := up1 hb3 (by omega) f2_a0
  have f3_a1 := up1 hb3 (by omega) f2_a1
  have f3_b0 := up1 hb3 (by omega) f2_b0
  have f3_b1 := up1 hb3 (by omega) f2_b1
  have f3_p := up1 hb3 (by omega) f2_p
  have f3_q := up1 hb3 (by omega) f2_q
  have f3_r10 := up1 hb3 (by omega) f2_r10
  have f3_r11 := up1 hb3 (by omega) f2_r11
  have f3_r20 : w3.cell? ⟨w2.heap.size, 0, none⟩ = some (.int .i64 x0) := (hb3.cell (by simp)).trans (by simp [go_sem])
  have f3_r21 : w3.cell? ⟨w2.heap.size, 1, none⟩ = some (.int .i64 x1) := (hb3.cell (by simp)).trans (by simp [go_sem])
  have hB3 : Below w.heap.size w w3 := (by (try show Below _ _ _); repeat (first | (with_reducible refine Below.setCell ?_ (by first | omega | (simp <;> omega)) _) | (with_reducible refine Below.alloc ?_ (by first | omega | (simp <;> omega)) _) | (with_reducible refine Below.drew ?_) | (with_reducible exact Below.refl _ _) | (with_reducible exact hB2) | (with_reducible refine below_call ?_ (by assumption) (by first | omega | (simp <;> omega))) | (with_reducible refine below_call ?_ (Drew.below (by assumption) _) (by first | omega | (simp <;> omega)))))
  clear hb3 hB2 f2_a0 f2_a1 f2_b0 f2_b1 f2_p f2_q f2_r10 f2_r11
  have l3_0 : w.heap.size < w3.heap.size := by omega
  have l3_1 : w.heap.size + 1 < w3.heap.size := by omega
  have l3_2 : w.heap.size + 1 + 1 < w3.heap.size := by omega
  have l3_3 : w1.heap.size < w3.heap.size := by omega
  have l3_4 : w2.heap.size < w3.heap.size := by omega
  go_wp2_with fail
  refine (h4 _).mono ?_
  rintro e w4 ⟨rfl, hb4⟩
  have hz4 := hb4.size
  simp at hz4
  have f4_a0 := up1 hb4 (by omega) f3_a0
  have f4_a1 := up1 hb4 (by omega) f3_a1
  have f4_b0 := up1 hb4 (by omega) f3_b0
  have f4_b1 := up1 hb4 (by omega) f3_b1
  have f4_p := up1 hb4 (by omega) f3_p
  have f4_q := up1 hb4 (by omega) f3_q
  have f4_r10 := up1 hb4 (by omega) f3_r10
  have f4_r11 := up1 hb4 (by omega) f3_r11
  have f4_r20 := up1 hb4 (by omega) f3_r20
  have f4_r21 := up1 hb4 (by omega) f3_r21
  have f4_r30 : w4.cell? ⟨w3.heap.size, 0, none⟩ = some (.int .i64 y0) := (hb4.cell (by simp)).trans (by simp [go_sem])
  have f4_r31 : w4.cell? ⟨w3.heap.size, 1, none⟩ = some (.int .i64 y1) := (hb4.cell (by simp)).trans (by simp [go_sem])
  have hB4 : Below w.heap.size w w4 := (by (try show Below _ _ _); repeat (first | (with_reducible refine Below.setCell ?_ (by first | omega | (simp <;> omega)) _) | (with_reducible refine Below.alloc ?_ (by first | omega | (simp <;> omega)) _) | (with_reducible refine Below.drew ?_) | (with_reducible exact Below.refl _ _) | (with_reducible exact hB3) | (with_reducible refine below_call ?_ (by assumption) (by first | omega | (simp <;> omega))) | (with_reducible refine below_call ?_ (Drew.below (by assumption) _) (by first | omega | (simp <;> omega)))))
  clear hb4 hB3 f3_a0 f3_a1 f3_b0 f3_b1 f3_p f3_q f3_r10 f3_r11 f3_r20 f3_r21
  have l4_0 : w.heap.size < w4.heap.size := by omega
  have l4_1 : w.heap.size + 1 < w4.heap.size := by omega
  have l4_2 : w.heap.size + 1 + 1 < w4.heap.size := by omega
  have l4_3 : w1.heap.size < w4.heap.size := by omega
  have l4_4 : w2.heap.size < w4.heap.size := by omega
  have l4_5 : w3.heap.size < w4.heap.size := by omega
  go_wp2_with fail
  refine (h5 _).mono ?_
  rintro e w5 ⟨rfl, hb5⟩
  have hz5 := hb5.size
  simp at hz5
  have f5_a0 := up1 hb5 (by omega) f4_a0
  have f5_a1 := up1 hb5 (by omega) f4_a1
  have f5_b0 := up1 hb5 (by omega) f4_b0
  have f5_b1 := up1 hb5 (by omega) f4_b1
  have f5_p := up1 hb5 (by omega) f4_p
  have f5_q := up1 hb5 (by omega) f4_q
  have f5_r10 := up1 hb5 (by omega) f4_r10
  have f5_r11 := up1 hb5 (by omega) f4_r11
  have f5_r20 := up1 hb5 (by omega) f4_r20
  have f5_r21 := up1 hb5 (by omega) f4_r21
  have f5_r30 := up1 hb5 (by omega) f4_r30
  have f5_r31 := up1 hb5 (by omega) f4_r31
  have f5_r40 : w5.cell? ⟨w4.heap.size, 0, none⟩ = some (.int .i64 y0) := (hb5.cell (by simp)).trans (by simp [go_sem])
  have f5_r41 : w5.cell? ⟨w4.heap.size, 1, none⟩ = some (.int .i64 y1) := (hb5.cell (by simp)).trans (by simp [go_sem])
  have hB5 : Below w.heap.size w w5 := (by (try show Below _ _ _); repeat (first | (with_reducible refine Below.setCell ?_ (by first | omega | (simp <;> omega)) _) | (with_reducible refine Below.alloc ?_ (by first | omega | (simp <;> omega)) _) | (with_reducible refine Below.drew ?_) | (with_reducible exact Below.refl _ _) | (with_reducible exact hB4) | (with_reducible refine below_call ?_ (by assumption) (by first | omega | (simp <;> omega))) | (with_reducible refine below_call ?_ (Drew.below (by assumption) _) (by first | omega | (simp <;> omega)))))
  clear hb5 hB4 f4_a0 f4_a1 f4_b0 f4_b1 f4_p f4_q f4_r10 f4_r11 f4_r20 f4_r21 f4_r30 f4_r31
  have l5_0 : w.heap.size < w5.heap.size := by omega
  have l5_1 : w.heap.size + 1 < w5.heap.size := by omega
  have l5_2 : w.heap.size + 1 + 1 < w5.heap.size := by omega
  have l5_3 : w1.heap.size < w5.heap.size := by omega
  have l5_4 : w2.heap.size < w5.heap.size := by omega
  have l5_5 : w3.heap.size < w5.heap.size := by omega
  have l5_6 : w4.heap.size < w5.heap.size := by omega
  go_wp2_with fail
  refine (h6 _).mono ?_
  rintro e w6 ⟨rfl, hb6⟩
  have hz6 := hb6.size
  simp at hz6
  have f6_a0 := up1 hb6 (by omega) f5_a0
  have f6_a1 := up1 hb6 (by omega) f5_a1
  have f6_b0 := up1 hb6 (by omega) f5_b0
  have f6_b1 := up1 hb6 (by omega) f5_b1
  have f6_p := up1 hb6 (by omega) f5_p
  have f6_q := up1 hb6 (by omega) f5_q
  have f6_r10 := up1 hb6 (by omega) f5_r10
  have f6_r11 := up1 hb6 (by omega) f5_r11
  have f6_r20 := up1 hb6 (by omega) f5_r20
  have f6_r21 := up1 hb6 (by omega) f5_r21
  have f6_r30 := up1 hb6 (by omega) f5_r30
  have f6_r31 := up1 hb6 (by omega) f5_r31
  have f6_r40 := up1 hb6 (by omega) f5_r40
  have f6_r41 := up1 hb6 (by omega) f5_r41
  have f6_r50 : w6.cell? ⟨w5.heap.size, 0, none⟩ = some (.int .i64 z0) := (hb6.cell (by simp)).trans (by simp [go_sem])
  have f6_r51 : w6.cell? ⟨w5.heap.size, 1, none⟩ = some (.int .i64 z1) := (hb6.cell (by simp)).trans (by simp [go_sem])
  have hB6 : Below w.heap.size w w6 := (by (try show Below _ _ _); repeat (first | (with_reducible refine Below.setCell ?_ (by first | omega | (simp <;> omega)) _) | (with_reducible refine Below.alloc ?_ (by first | omega | (simp <;> omega)) _) | (with_reducible refine Below.drew ?_) | (with_reducible exact Below.refl _ _) | (with_reducible exact hB5) | (with_reducible refine below_call ?_ (by assumption) (by first | omega | (simp <;> omega))) | (with_reducible refine below_call ?_ (Drew.below (by assumption) _) (by first | omega | (simp <;> omega)))))
  clear hb6 hB5 f5_a0 f5_a1 f5_b0 f5_b1 f5_p f5_q f5_r10 f5_r11 f5_r20 f5_r21 f5_r30 f5_r31 f5_r40 f5_r41
  have l6_0 : w.heap.size < w6.heap.size := by omega
  have l6_1 : w.heap.size + 1 < w6.heap.size := by omega
  have l6_2 : w.heap.size + 1 + 1 < w6.heap.size := by omega
  have l6_3 : w1.heap.size < w6.heap.size := by omega
  have l6_4 : w2.heap.size < w6.heap.size := by omega
  have l6_5 : w3.heap.size < w6.heap.size := by omega
  have l6_6 : w4.heap.size < w6.heap.size := by omega
  have l6_7 : w5.heap.size < w6.heap.size := by omega
  go_wp2_with fail
  refine (h7 _).mono ?_
  rintro e w7 ⟨rfl, hb7⟩
  go_wp2
  go_ret
  exact ⟨rfl, (by (try show Below _ _ _); repeat (first | (with_reducible refine Below.setCell ?_ (by first | omega | (simp <;> omega)) _) | (with_reducible refine Below.alloc ?_ (by first | omega | (simp <;> omega)) _) | (with_reducible refine Below.drew ?_) | (with_reducible exact Below.refl _ _) | (with_reducible exact hB6) | (with_reducible refine below_call ?_ (by assumption) (by first | omega | (simp <;> omega))) | (with_reducible refine below_call ?_ (Drew.below (by assumption) _) (by first | omega | (simp <;> omega)))))⟩

end Go.Proofs.Ytfohdafijfjefaa
