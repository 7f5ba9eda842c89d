/- spilelaw01.SpanBoils: the walk. -/
import Derived.Test.YtfohdafijfjefaaKnown1
import Derived.Test.YtfohdafijfjefaaRef2
import Derived.Test.YtfohdafijfjefaaOpen
set_option linter.unusedSimpArgs false
set_option linter.unusedVariables false
namespace Go.Proofs.Ytfohdafijfjefaa
open Go.RowKit Go.Shelf

set_option maxRecDepth 100000 in
set_option maxHeartbeats 2000000 in
theorem boils_walk (a s b : Int) (w : World) :
    Calls Try.prog 4 #[.agg #[.int .i64 a, .int .i64 s], .int .i64 b] w fun e w' => e = .returned (.bool true) ∧ Below w.heap.size w w' := by
  have h1 := fun W => brix_any a s W
  have h2 := fun W => refBrix_any a s W
  have h3 := fun W => Boil_any a s b W
  have h4 := fun W => refBoil_any a s b W
  have h5 := fun W => Thin_any a s b W
  have h6 := fun W => refThin_any a s b W
  have h7 := fun W => known1_any W
  generalize brixS ⟨a, s⟩ = x at h1 h2
  generalize boilS ⟨a, s⟩ b = y at h3 h4
  generalize thinS ⟨a, s⟩ b = z at h5 h6
  obtain ⟨⟨x0, x1⟩, x2⟩ := x
  obtain ⟨y1, y2⟩ := y
  obtain ⟨z1, z2⟩ := z
  simp only [RE, IE] at h1 h2 h3 h4 h5 h6
  go_enter Try.func4, Try.ntmps4
  go_wp2_with fail
  refine (h1 _).mono ?_
  rintro e w1 ⟨rfl, hb1⟩
  have hz1 := hb1.size
  simp at hz1
  have f1_a : w1.cell? ⟨w.heap.size, 0, none⟩ = some (.int .i64 a) := (hb1.cell (by simp <;> omega)).trans (by simp [go_sem])
  have f1_s : w1.cell? ⟨w.heap.size, 1, none⟩ = some (.int .i64 s) := (hb1.cell (by simp <;> omega)).trans (by simp [go_sem])
  have hB1 : Below w.heap.size w w1 := (by (try show Below _ _ _); repeat (first | (with_reducible refine Below.setCell ?_ (by first | omega | (simp <;> omega)) _) | (with_reducible refine Below.alloc ?_ (by first | omega | (simp <;> omega)) _) | (with_reducible refine Below.drew ?_) | (with_reducible exact Below.refl _ _) | (with_reducible exact Below.refl _ _) | (with_reducible refine below_call ?_ (by assumption) (by first | omega | (simp <;> omega))) | (with_reducible refine below_call ?_ (Drew.below (by assumption) _) (by first | omega | (simp <;> omega)))))
  clear hb1
  have l1_0 : w.heap.size < w1.heap.size := by omega
  go_wp2_with fail
  refine (h2 _).mono ?_
  rintro e w2 ⟨rfl, hb2⟩
  have hz2 := hb2.size
  simp at hz2
  have f2_a := up1 hb2 (by omega) f1_a
  have f2_s := up1 hb2 (by omega) f1_s
  have f2_r10 : w2.cell? ⟨w1.heap.size, 0, none⟩ = some (.int .i64 x0) := (hb2.cell (by simp)).trans (by simp [go_sem])
  have f2_r11 : w2.cell? ⟨w1.heap.size, 1, none⟩ = some (.int .i64 x1) := (hb2.cell (by simp)).trans (by simp [go_sem])
  have hB2 : Below w.heap.size w w2 := (by (try show Below _ _ _); repeat (first | (with_reducible refine Below.setCell ?_ (by first | omega | (simp <;> omega)) _) | (with_reducible refine Below.alloc ?_ (by first | omega | (simp <;> omega)) _) | (with_reducible refine Below.drew ?_) | (with_reducible exact Below.refl _ _) | (with_reducible exact hB1) | (with_reducible refine below_call ?_ (by assumption) (by first | omega | (simp <;> omega))) | (with_reducible refine below_call ?_ (Drew.below (by assumption) _) (by first | omega | (simp <;> omega)))))
  clear hb2 hB1 f1_a f1_s
  have l2_0 : w.heap.size < w2.heap.size := by omega
  have l2_1 : w1.heap.size < w2.heap.size := by omega
  go_wp2_with fail
  refine (h3 _).mono ?_
  rintro e w3 ⟨rfl, hb3⟩
  have hz3 := hb3.size
  simp at hz3
  have f3_a := up1 hb3 (by omega) f2_a
  have f3_s := up1 hb3 (by omega) f2_s
  have f3_r10 := up1 hb3 (by omega) f2_r10
  have f3_r11 := up1 hb3 (by omega) f2_r11
  have f3_r20 : w3.cell? ⟨w2.heap.size, 0, none⟩ = some (.int .i64 x0) := (hb3.cell (by simp)).trans (by simp [go_sem])
  have f3_r21 : w3.cell? ⟨w2.heap.size, 1, none⟩ = some (.int .i64 x1) := (hb3.cell (by simp)).trans (by simp [go_sem])
  have hB3 : Below w.heap.size w w3 := (by (try show Below _ _ _); repeat (first | (with_reducible refine Below.setCell ?_ (by first | omega | (simp <;> omega)) _) | (with_reducible refine Below.alloc ?_ (by first | omega | (simp <;> omega)) _) | (with_reducible refine Below.drew ?_) | (with_reducible exact Below.refl _ _) | (with_reducible exact hB2) | (with_reducible refine below_call ?_ (by assumption) (by first | omega | (simp <;> omega))) | (with_reducible refine below_call ?_ (Drew.below (by assumption) _) (by first | omega | (simp <;> omega)))))
  clear hb3 hB2 f2_a f2_s f2_r10 f2_r11
  have l3_0 : w.heap.size < w3.heap.size := by omega
  have l3_1 : w1.heap.size < w3.heap.size := by omega
  have l3_2 : w2.heap.size < w3.heap.size := by omega
  go_wp2_with fail
  refine (h4 _).mono ?_
  rintro e w4 ⟨rfl, hb4⟩
  have hz4 := hb4.size
  have f4_a := up0 hb4 (by omega) f3_a
  have f4_s := up0 hb4 (by omega) f3_s
  have f4_r10 := up0 hb4 (by omega) f3_r10
  have f4_r11 := up0 hb4 (by omega) f3_r11
  have f4_r20 := up0 hb4 (by omega) f3_r20
  have f4_r21 := up0 hb4 (by omega) f3_r21
  have hB4 : Below w.heap.size w w4 := (by (try show Below _ _ _); repeat (first | (with_reducible refine Below.setCell ?_ (by first | omega | (simp <;> omega)) _) | (with_reducible refine Below.alloc ?_ (by first | omega | (simp <;> omega)) _) | (with_reducible refine Below.drew ?_) | (with_reducible exact Below.refl _ _) | (with_reducible exact hB3) | (with_reducible refine below_call ?_ (by assumption) (by first | omega | (simp <;> omega))) | (with_reducible refine below_call ?_ (Drew.below (by assumption) _) (by first | omega | (simp <;> omega)))))
  clear hb4 hB3 f3_a f3_s f3_r10 f3_r11 f3_r20 f3_r21
  have l4_0 : w.heap.size < w4.heap.size := by omega
  have l4_1 : w1.heap.size < w4.heap.size := by omega
  have l4_2 : w2.heap.size < w4.heap.size := by omega
  go_wp2_with fail
  refine (h5 _).mono ?_
  rintro e w5 ⟨rfl, hb5⟩
  have hz5 := hb5.size
  have f5_a := up0 hb5 (by omega) f4_a
  have f5_s := up0 hb5 (by omega) f4_s
  have f5_r10 := up0 hb5 (by omega) f4_r10
  have f5_r11 := up0 hb5 (by omega) f4_r11
  have f5_r20 := up0 hb5 (by omega) f4_r20
  have f5_r21 := up0 hb5 (by omega) f4_r21
  have hB5 : Below w.heap.size w w5 := (by (try show Below _ _ _); repeat (first | (with_reducible refine Below.setCell ?_ (by first | omega | (simp <;> omega)) _) | (with_reducible refine Below.alloc ?_ (by first | omega | (simp <;> omega)) _) | (with_reducible refine Below.drew ?_) | (with_reducible exact Below.refl _ _) | (with_reducible exact hB4) | (with_reducible refine below_call ?_ (by assumption) (by first | omega | (simp <;> omega))) | (with_reducible refine below_call ?_ (Drew.below (by assumption) _) (by first | omega | (simp <;> omega)))))
  clear hb5 hB4 f4_a f4_s f4_r10 f4_r11 f4_r20 f4_r21
  have l5_0 : w.heap.size < w5.heap.size := by omega
  have l5_1 : w1.heap.size < w5.heap.size := by omega
  have l5_2 : w2.heap.size < w5.heap.size := by omega
  go_wp2_with fail
  refine (h6 _).mono ?_
  rintro e w6 ⟨rfl, hb6⟩
  have hz6 := hb6.size
  have f6_a := up0 hb6 (by omega) f5_a
  have f6_s := up0 hb6 (by omega) f5_s
  have f6_r10 := up0 hb6 (by omega) f5_r10
  have f6_r11 := up0 hb6 (by omega) f5_r11
  have f6_r20 := up0 hb6 (by omega) f5_r20
  have f6_r21 := up0 hb6 (by omega) f5_r21
  have hB6 : Below w.heap.size w w6 := (by (try show Below _ _ _); repeat (first | (with_reducible refine Below.setCell ?_ (by first | omega | (simp <;> omega)) _) | (with_reducible refine Below.alloc ?_ (by first | omega | (simp <;> omega)) _) | (with_reducible refine Below.drew ?_) | (with_reducible exact Below.refl _ _) | (with_reducible exact hB5) | (with_reducible refine below_call ?_ (by assumption) (by first | omega | (simp <;> omega))) | (with_reducible refine below_call ?_ (Drew.below (by assumption) _) (by first | omega | (simp <;> omega)))))
  clear hb6 hB5 f5_a f5_s f5_r10 f5_r11 f5_r20 f5_r21
  have l6_0 : w.heap.size < w6.heap.size := by omega
  have l6_1 : w1.heap.size < w6.heap.size := by omega
  have l6_2 : w2.heap.size < w6.heap.size := by omega
  go_wp2_with fail
  refine (h7 _).mono ?_
  rintro e w7 ⟨rfl, hb7⟩
  go_wp2
  go_ret
  exact ⟨rfl, (by (try show Below _ _ _); repeat (first | (with_reducible refine Below.setCell ?_ (by first | omega | (simp <;> omega)) _) | (with_reducible refine Below.alloc ?_ (by first | omega | (simp <;> omega)) _) | (with_reducible refine Below.drew ?_) | (with_reducible exact Below.refl _ _) | (with_reducible exact hB6) | (with_reducible refine below_call ?_ (by assumption) (by first | omega | (simp <;> omega))) | (with_reducible refine below_call ?_ (Drew.below (by assumption) _) (by first | omega | (simp <;> omega)))))⟩

end Go.Proofs.Ytfohdafijfjefaa
