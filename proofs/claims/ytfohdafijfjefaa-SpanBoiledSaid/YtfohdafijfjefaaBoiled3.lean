/- spilelaw01.SpanBoiled: the walk (too much water can be added). -/
import Derived.Test.YtfohdafijfjefaaKnown1
import Derived.Test.YtfohdafijfjefaaRef2
import Derived.Test.YtfohdafijfjefaaBoiledMath
import Derived.Test.YtfohdafijfjefaaBoiled1
set_option linter.unusedSimpArgs false
set_option linter.unusedVariables false
namespace Go.Proofs.Ytfohdafijfjefaa
open Go.RowKit Go.Shelf

set_option maxRecDepth 100000 in
set_option maxHeartbeats 4000000 in
theorem boiled_over (a s bx : Int) (ha : 0 ≤ a ∧ a ≤ 4294967295) (hs : 0 ≤ s ∧ s ≤ 4294967295) (hx : 0 ≤ bx ∧ bx ≤ 65535) (h0 : 1 ≤ s) (hw : ¬ s * 10000 / (1 + bx % 10000) - (a + s) < 0) (ho : 1000000000000 < a + (s * 10000 / (1 + bx % 10000) - (a + s))) (w : World) :
    Calls Try.prog 5 #[.int .u32 a, .int .u32 s, .int .u16 bx] w fun e w' => e = .returned (.bool true) ∧ Below w.heap.size w w' := by
  have hb : 1 ≤ 1 + bx % 10000 ∧ 1 + bx % 10000 ≤ 10000 := by omega
  have h1 := fun W => Boil_any a s (1 + bx % 10000) W
  have h2 := fun W => Thin_any a s (1 + bx % 10000) W
  have h3 := fun W => brix_any a s W
  have h4 := fun v W => brix_any (a - v) s W
  have hsp := spare_ok a s _ ha ⟨h0, hs.2⟩ hb
  have HB := boiled_is a s _ ha.1 h0 hb
  have HT := thinned_is a s _ ha.1 h0 hb
  have hq := le_div_iff (s * 10000) (1 + bx % 10000) s (by omega)
  have e1 : boilS ⟨a, s⟩ (1 + bx % 10000) = (max 0 (-(s * 10000 / (1 + bx % 10000) - (a + s))), 0) := by unfold boilS; rw [hsp]
  have e2 : thinS ⟨a, s⟩ (1 + bx % 10000) = if s * 10000 / (1 + bx % 10000) - (a + s) < 0 then (0, 7) else if 1000000000000 < a + (s * 10000 / (1 + bx % 10000) - (a + s)) then (0, 10) else (s * 10000 / (1 + bx % 10000) - (a + s), 0) := by unfold thinS; rw [hsp]; rfl
  rw [e1] at h1
  rw [e2] at h2
  clear hsp e1 e2
  generalize hn : s * 10000 / (1 + bx % 10000) - (a + s) = n at *
  generalize hwv : max 0 (-n) = wv at *
  have h4' := h4 wv
  clear h4
  obtain ⟨w0, wa, q0, q1, xl, yb, lo, hi, x01, top, iff⟩ := HB
  rw [brix_eq a s ((okS_iff _).2 (by simp only; omega)) (by omega)] at h3
  rw [brix_eq (a - wv) s ((okS_iff _).2 (by simp only; omega)) (by omega)] at h4'
  have p0 : 0 ≤ (1 + bx % 10000) * (a - wv + s) := Int.mul_nonneg (by omega) (by omega)
  have p1 : (1 + bx % 10000) * (a - wv + 1 + s) = (1 + bx % 10000) * (a - wv + s) + (1 + bx % 10000) := by
    rw [show a - wv + 1 + s = (a - wv + s) + 1 by omega, Int.mul_add, Int.mul_one]
  generalize s * 10000 / (a + s) = xlo at *
  generalize cdiv (s * 10000) (a + s) = xhi at *
  generalize s * 10000 / (a - wv + s) = ylo at *
  generalize cdiv (s * 10000) (a - wv + s) = yhi at *
  have hk := fun W => known1_any W
  have hs0 : (s == 0) = false := by rw [beq_eq_false_iff_ne]; omega
  have p2 : 0 ≤ (1 + bx % 10000) * (a - wv + 1 + s) ∧ (1 + bx % 10000) * (a - wv + 1 + s) ≤ 100000000000000 := by rw [p1]; omega
  simp only [IE, RE] at h1 h2 h3 h4'
  rw [if_neg hw, if_pos ho] at h2
  have hwz : wv = 0 := by omega
  have hwb : (wv == 0) = true := by rw [beq_iff_eq]; exact hwz
  have hge : 1 + bx % 10000 ≤ xlo := iff.1 hwz
  have hle : wv ≤ 0 := by omega
  clear iff q1 HT hn hwv hq p1 hwz
  have xd : xhi - xlo = 0 ∨ xhi - xlo = 1 := x01
  clear x01
  rcases xd with xd | xd
  · have xb0 : (xhi - xlo != 0) = false := by rw [xd]; rfl
    have xb1 : (xhi - xlo == 1) = false := by rw [xd]; rfl
    have xb2 : (xhi - xlo != 1) = true := by rw [xd]; rfl
    have xg : 0 ≤ xhi - xlo ∧ xhi - xlo ≤ 1 := by omega
    clear xd
    go_enter Try.func5, Try.ntmps5
    go_wp2_with fail
    refine (h1 _).mono ?_
    rintro e w1 ⟨rfl, hb1⟩
    have hz1 := hb1.size
    (try simp only [World.size_alloc, World.size_setCell, World.size_drew] at hz1)
    have f1_b0_0 : w1.cell? ⟨w.heap.size, 0, none⟩ = some (.int .i64 a) := (hb1.cell (p := ⟨w.heap.size, 0, none⟩) (by show w.heap.size < _; first | omega | (simp only [World.size_alloc, World.size_setCell, World.size_drew]; omega))).trans (by simp [go_sem, cell_set])
    have f1_b0_1 : w1.cell? ⟨w.heap.size, 1, none⟩ = some (.int .i64 s) := (hb1.cell (p := ⟨w.heap.size, 1, none⟩) (by show w.heap.size < _; first | omega | (simp only [World.size_alloc, World.size_setCell, World.size_drew]; omega))).trans (by simp [go_sem, cell_set])
    have hB1 : Below w.heap.size w w1 := (by (try show Below _ _ _); repeat (first | (with_reducible refine Below.setCell ?_ (by first | omega | (simp <;> omega)) _) | (with_reducible refine Below.alloc ?_ (by first | omega | (simp <;> omega)) _) | (with_reducible refine Below.drew ?_) | (with_reducible exact Below.refl _ _) | (with_reducible exact Below.refl _ _) | (with_reducible refine below_call ?_ (by assumption) (by first | omega | (simp <;> omega))) | (with_reducible refine below_call ?_ (Drew.below (by assumption) _) (by first | omega | (simp <;> omega)))))
    clear hb1 
    have l1_0 : w.heap.size < w1.heap.size := by omega
    go_wp2_with fail
    refine (h2 _).mono ?_
    rintro e w2 ⟨rfl, hb2⟩
    have hz2 := hb2.size
    (try simp only [World.size_alloc, World.size_setCell, World.size_drew] at hz2)
    have f2_b0_0 := up0 hb2 (by omega) f1_b0_0
    have f2_b0_1 := up0 hb2 (by omega) f1_b0_1
    have hB2 : Below w.heap.size w w2 := (by (try show Below _ _ _); repeat (first | (with_reducible refine Below.setCell ?_ (by first | omega | (simp <;> omega)) _) | (with_reducible refine Below.alloc ?_ (by first | omega | (simp <;> omega)) _) | (with_reducible refine Below.drew ?_) | (with_reducible exact Below.refl _ _) | (with_reducible exact hB1) | (with_reducible refine below_call ?_ (by assumption) (by first | omega | (simp <;> omega))) | (with_reducible refine below_call ?_ (Drew.below (by assumption) _) (by first | omega | (simp <;> omega)))))
    clear hb2 hB1 f1_b0_0 f1_b0_1
    have l2_0 : w.heap.size < w2.heap.size := by omega
    clear l1_0
    go_wp2_with fail
    refine (h3 _).mono ?_
    rintro e w3 ⟨rfl, hb3⟩
    have hz3 := hb3.size
    (try simp only [World.size_alloc, World.size_setCell, World.size_drew] at hz3)
    have f3_b0_0 := up1 hb3 (by omega) f2_b0_0
    have f3_b0_1 := up1 hb3 (by omega) f2_b0_1
    have f3_b1_0 : w3.cell? ⟨w2.heap.size, 0, none⟩ = some (.int .i64 ((a - wv))) := (hb3.cell (p := ⟨w2.heap.size, 0, none⟩) (by show w2.heap.size < _; first | omega | (simp only [World.size_alloc, World.size_setCell, World.size_drew]; omega))).trans (by simp [go_sem, cell_set])
    have f3_b1_1 : w3.cell? ⟨w2.heap.size, 1, none⟩ = some (.int .i64 s) := (hb3.cell (p := ⟨w2.heap.size, 1, none⟩) (by show w2.heap.size < _; first | omega | (simp only [World.size_alloc, World.size_setCell, World.size_drew]; omega))).trans (by simp [go_sem, cell_set])
    have hB3 : Below w.heap.size w w3 := (by (try show Below _ _ _); repeat (first | (with_reducible refine Below.setCell ?_ (by first | omega | (simp <;> omega)) _) | (with_reducible refine Below.alloc ?_ (by first | omega | (simp <;> omega)) _) | (with_reducible refine Below.drew ?_) | (with_reducible exact Below.refl _ _) | (with_reducible exact hB2) | (with_reducible refine below_call ?_ (by assumption) (by first | omega | (simp <;> omega))) | (with_reducible refine below_call ?_ (Drew.below (by assumption) _) (by first | omega | (simp <;> omega)))))
    clear hb3 hB2 f2_b0_0 f2_b0_1
    have l3_0 : w.heap.size < w3.heap.size := by omega
    have l3_1 : w2.heap.size < w3.heap.size := by omega
    clear l2_0
    go_wp2_with fail
    refine (h4' _).mono ?_
    rintro e w4 ⟨rfl, hb4⟩
    have hz4 := hb4.size
    (try simp only [World.size_alloc, World.size_setCell, World.size_drew] at hz4)
    have f4_b0_0 := up1 hb4 (by omega) f3_b0_0
    have f4_b0_1 := up1 hb4 (by omega) f3_b0_1
    have f4_b1_0 := up1 hb4 (by omega) f3_b1_0
    have f4_b1_1 := up1 hb4 (by omega) f3_b1_1
    have f4_b2_0 : w4.cell? ⟨w3.heap.size, 0, none⟩ = some (.int .i64 xlo) := (hb4.cell (p := ⟨w3.heap.size, 0, none⟩) (by show w3.heap.size < _; first | omega | (simp only [World.size_alloc, World.size_setCell, World.size_drew]; omega))).trans (by simp [go_sem, cell_set])
    have f4_b2_1 : w4.cell? ⟨w3.heap.size, 1, none⟩ = some (.int .i64 xhi) := (hb4.cell (p := ⟨w3.heap.size, 1, none⟩) (by show w3.heap.size < _; first | omega | (simp only [World.size_alloc, World.size_setCell, World.size_drew]; omega))).trans (by simp [go_sem, cell_set])
    have hB4 : Below w.heap.size w w4 := (by (try show Below _ _ _); repeat (first | (with_reducible refine Below.setCell ?_ (by first | omega | (simp <;> omega)) _) | (with_reducible refine Below.alloc ?_ (by first | omega | (simp <;> omega)) _) | (with_reducible refine Below.drew ?_) | (with_reducible exact Below.refl _ _) | (with_reducible exact hB3) | (with_reducible refine below_call ?_ (by assumption) (by first | omega | (simp <;> omega))) | (with_reducible refine below_call ?_ (Drew.below (by assumption) _) (by first | omega | (simp <;> omega)))))
    clear hb4 hB3 f3_b0_0 f3_b0_1 f3_b1_0 f3_b1_1
    have l4_0 : w.heap.size < w4.heap.size := by omega
    have l4_1 : w2.heap.size < w4.heap.size := by omega
    have l4_2 : w3.heap.size < w4.heap.size := by omega
    clear l3_0 l3_1
    go_wp2_with fail
    refine (hk _).mono ?_
    rintro e w5 ⟨rfl, hb5⟩
    have hz5 := hb5.size
    (try simp only [World.size_alloc, World.size_setCell, World.size_drew] at hz5)
    have f5_b0_0 := up1 hb5 (by omega) f4_b0_0
    have f5_b0_1 := up1 hb5 (by omega) f4_b0_1
    have f5_b1_0 := up1 hb5 (by omega) f4_b1_0
    have f5_b1_1 := up1 hb5 (by omega) f4_b1_1
    have f5_b2_0 := up1 hb5 (by omega) f4_b2_0
    have f5_b2_1 := up1 hb5 (by omega) f4_b2_1
    have f5_b3_0 : w5.cell? ⟨w4.heap.size, 0, none⟩ = some (.int .i64 ylo) := (hb5.cell (p := ⟨w4.heap.size, 0, none⟩) (by show w4.heap.size < _; first | omega | (simp only [World.size_alloc, World.size_setCell, World.size_drew]; omega))).trans (by simp [go_sem, cell_set])
    have f5_b3_1 : w5.cell? ⟨w4.heap.size, 1, none⟩ = some (.int .i64 yhi) := (hb5.cell (p := ⟨w4.heap.size, 1, none⟩) (by show w4.heap.size < _; first | omega | (simp only [World.size_alloc, World.size_setCell, World.size_drew]; omega))).trans (by simp [go_sem, cell_set])
    have hB5 : Below w.heap.size w w5 := (by (try show Below _ _ _); repeat (first | (with_reducible refine Below.setCell ?_ (by first | omega | (simp <;> omega)) _) | (with_reducible refine Below.alloc ?_ (by first | omega | (simp <;> omega)) _) | (with_reducible refine Below.drew ?_) | (with_reducible exact Below.refl _ _) | (with_reducible exact hB4) | (with_reducible refine below_call ?_ (by assumption) (by first | omega | (simp <;> omega))) | (with_reducible refine below_call ?_ (Drew.below (by assumption) _) (by first | omega | (simp <;> omega)))))
    clear hb5 hB4 f4_b0_0 f4_b0_1 f4_b1_0 f4_b1_1 f4_b2_0 f4_b2_1
    have l5_0 : w.heap.size < w5.heap.size := by omega
    have l5_1 : w2.heap.size < w5.heap.size := by omega
    have l5_2 : w3.heap.size < w5.heap.size := by omega
    have l5_3 : w4.heap.size < w5.heap.size := by omega
    clear l4_0 l4_1 l4_2
    go_wp2
    go_ret
    exact ⟨rfl, (by (try show Below _ _ _); repeat (first | (with_reducible refine Below.setCell ?_ (by first | omega | (simp <;> omega)) _) | (with_reducible refine Below.alloc ?_ (by first | omega | (simp <;> omega)) _) | (with_reducible refine Below.drew ?_) | (with_reducible exact Below.refl _ _) | (with_reducible exact hB5) | (with_reducible refine below_call ?_ (by assumption) (by first | omega | (simp <;> omega))) | (with_reducible refine below_call ?_ (Drew.below (by assumption) _) (by first | omega | (simp <;> omega)))))⟩
  · have xb0 : (xhi - xlo != 0) = true := by rw [xd]; rfl
    have xb1 : (xhi - xlo == 1) = true := by rw [xd]; rfl
    have xb2 : (xhi - xlo != 1) = false := by rw [xd]; rfl
    have xg : 0 ≤ xhi - xlo ∧ xhi - xlo ≤ 1 := by omega
    clear xd
    go_enter Try.func5, Try.ntmps5
    go_wp2_with fail
    refine (h1 _).mono ?_
    rintro e w1 ⟨rfl, hb1⟩
    have hz1 := hb1.size
    (try simp only [World.size_alloc, World.size_setCell, World.size_drew] at hz1)
    have f1_b0_0 : w1.cell? ⟨w.heap.size, 0, none⟩ = some (.int .i64 a) := (hb1.cell (p := ⟨w.heap.size, 0, none⟩) (by show w.heap.size < _; first | omega | (simp only [World.size_alloc, World.size_setCell, World.size_drew]; omega))).trans (by simp [go_sem, cell_set])
    have f1_b0_1 : w1.cell? ⟨w.heap.size, 1, none⟩ = some (.int .i64 s) := (hb1.cell (p := ⟨w.heap.size, 1, none⟩) (by show w.heap.size < _; first | omega | (simp only [World.size_alloc, World.size_setCell, World.size_drew]; omega))).trans (by simp [go_sem, cell_set])
    have hB1 : Below w.heap.size w w1 := (by (try show Below _ _ _); repeat (first | (with_reducible refine Below.setCell ?_ (by first | omega | (simp <;> omega)) _) | (with_reducible refine Below.alloc ?_ (by first | omega | (simp <;> omega)) _) | (with_reducible refine Below.drew ?_) | (with_reducible exact Below.refl _ _) | (with_reducible exact Below.refl _ _) | (with_reducible refine below_call ?_ (by assumption) (by first | omega | (simp <;> omega))) | (with_reducible refine below_call ?_ (Drew.below (by assumption) _) (by first | omega | (simp <;> omega)))))
    clear hb1 
    have l1_0 : w.heap.size < w1.heap.size := by omega
    go_wp2_with fail
    refine (h2 _).mono ?_
    rintro e w2 ⟨rfl, hb2⟩
    have hz2 := hb2.size
    (try simp only [World.size_alloc, World.size_setCell, World.size_drew] at hz2)
    have f2_b0_0 := up0 hb2 (by omega) f1_b0_0
    have f2_b0_1 := up0 hb2 (by omega) f1_b0_1
    have hB2 : Below w.heap.size w w2 := (by (try show Below _ _ _); repeat (first | (with_reducible refine Below.setCell ?_ (by first | omega | (simp <;> omega)) _) | (with_reducible refine Below.alloc ?_ (by first | omega | (simp <;> omega)) _) | (with_reducible refine Below.drew ?_) | (with_reducible exact Below.refl _ _) | (with_reducible exact hB1) | (with_reducible refine below_call ?_ (by assumption) (by first | omega | (simp <;> omega))) | (with_reducible refine below_call ?_ (Drew.below (by assumption) _) (by first | omega | (simp <;> omega)))))
    clear hb2 hB1 f1_b0_0 f1_b0_1
    have l2_0 : w.heap.size < w2.heap.size := by omega
    clear l1_0
    go_wp2_with fail
    refine (h3 _).mono ?_
    rintro e w3 ⟨rfl, hb3⟩
    have hz3 := hb3.size
    (try simp only [World.size_alloc, World.size_setCell, World.size_drew] at hz3)
    have f3_b0_0 := up1 hb3 (by omega) f2_b0_0
    have f3_b0_1 := up1 hb3 (by omega) f2_b0_1
    have f3_b1_0 : w3.cell? ⟨w2.heap.size, 0, none⟩ = some (.int .i64 ((a - wv))) := (hb3.cell (p := ⟨w2.heap.size, 0, none⟩) (by show w2.heap.size < _; first | omega | (simp only [World.size_alloc, World.size_setCell, World.size_drew]; omega))).trans (by simp [go_sem, cell_set])
    have f3_b1_1 : w3.cell? ⟨w2.heap.size, 1, none⟩ = some (.int .i64 s) := (hb3.cell (p := ⟨w2.heap.size, 1, none⟩) (by show w2.heap.size < _; first | omega | (simp only [World.size_alloc, World.size_setCell, World.size_drew]; omega))).trans (by simp [go_sem, cell_set])
    have hB3 : Below w.heap.size w w3 := (by (try show Below _ _ _); repeat (first | (with_reducible refine Below.setCell ?_ (by first | omega | (simp <;> omega)) _) | (with_reducible refine Below.alloc ?_ (by first | omega | (simp <;> omega)) _) | (with_reducible refine Below.drew ?_) | (with_reducible exact Below.refl _ _) | (with_reducible exact hB2) | (with_reducible refine below_call ?_ (by assumption) (by first | omega | (simp <;> omega))) | (with_reducible refine below_call ?_ (Drew.below (by assumption) _) (by first | omega | (simp <;> omega)))))
    clear hb3 hB2 f2_b0_0 f2_b0_1
    have l3_0 : w.heap.size < w3.heap.size := by omega
    have l3_1 : w2.heap.size < w3.heap.size := by omega
    clear l2_0
    go_wp2_with fail
    refine (h4' _).mono ?_
    rintro e w4 ⟨rfl, hb4⟩
    have hz4 := hb4.size
    (try simp only [World.size_alloc, World.size_setCell, World.size_drew] at hz4)
    have f4_b0_0 := up1 hb4 (by omega) f3_b0_0
    have f4_b0_1 := up1 hb4 (by omega) f3_b0_1
    have f4_b1_0 := up1 hb4 (by omega) f3_b1_0
    have f4_b1_1 := up1 hb4 (by omega) f3_b1_1
    have f4_b2_0 : w4.cell? ⟨w3.heap.size, 0, none⟩ = some (.int .i64 xlo) := (hb4.cell (p := ⟨w3.heap.size, 0, none⟩) (by show w3.heap.size < _; first | omega | (simp only [World.size_alloc, World.size_setCell, World.size_drew]; omega))).trans (by simp [go_sem, cell_set])
    have f4_b2_1 : w4.cell? ⟨w3.heap.size, 1, none⟩ = some (.int .i64 xhi) := (hb4.cell (p := ⟨w3.heap.size, 1, none⟩) (by show w3.heap.size < _; first | omega | (simp only [World.size_alloc, World.size_setCell, World.size_drew]; omega))).trans (by simp [go_sem, cell_set])
    have hB4 : Below w.heap.size w w4 := (by (try show Below _ _ _); repeat (first | (with_reducible refine Below.setCell ?_ (by first | omega | (simp <;> omega)) _) | (with_reducible refine Below.alloc ?_ (by first | omega | (simp <;> omega)) _) | (with_reducible refine Below.drew ?_) | (with_reducible exact Below.refl _ _) | (with_reducible exact hB3) | (with_reducible refine below_call ?_ (by assumption) (by first | omega | (simp <;> omega))) | (with_reducible refine below_call ?_ (Drew.below (by assumption) _) (by first | omega | (simp <;> omega)))))
    clear hb4 hB3 f3_b0_0 f3_b0_1 f3_b1_0 f3_b1_1
    have l4_0 : w.heap.size < w4.heap.size := by omega
    have l4_1 : w2.heap.size < w4.heap.size := by omega
    have l4_2 : w3.heap.size < w4.heap.size := by omega
    clear l3_0 l3_1
    go_wp2_with fail
    refine (hk _).mono ?_
    rintro e w5 ⟨rfl, hb5⟩
    have hz5 := hb5.size
    (try simp only [World.size_alloc, World.size_setCell, World.size_drew] at hz5)
    have f5_b0_0 := up1 hb5 (by omega) f4_b0_0
    have f5_b0_1 := up1 hb5 (by omega) f4_b0_1
    have f5_b1_0 := up1 hb5 (by omega) f4_b1_0
    have f5_b1_1 := up1 hb5 (by omega) f4_b1_1
    have f5_b2_0 := up1 hb5 (by omega) f4_b2_0
    have f5_b2_1 := up1 hb5 (by omega) f4_b2_1
    have f5_b3_0 : w5.cell? ⟨w4.heap.size, 0, none⟩ = some (.int .i64 ylo) := (hb5.cell (p := ⟨w4.heap.size, 0, none⟩) (by show w4.heap.size < _; first | omega | (simp only [World.size_alloc, World.size_setCell, World.size_drew]; omega))).trans (by simp [go_sem, cell_set])
    have f5_b3_1 : w5.cell? ⟨w4.heap.size, 1, none⟩ = some (.int .i64 yhi) := (hb5.cell (p := ⟨w4.heap.size, 1, none⟩) (by show w4.heap.size < _; first | omega | (simp only [World.size_alloc, World.size_setCell, World.size_drew]; omega))).trans (by simp [go_sem, cell_set])
    have hB5 : Below w.heap.size w w5 := (by (try show Below _ _ _); repeat (first | (with_reducible refine Below.setCell ?_ (by first | omega | (simp <;> omega)) _) | (with_reducible refine Below.alloc ?_ (by first | omega | (simp <;> omega)) _) | (with_reducible refine Below.drew ?_) | (with_reducible exact Below.refl _ _) | (with_reducible exact hB4) | (with_reducible refine below_call ?_ (by assumption) (by first | omega | (simp <;> omega))) | (with_reducible refine below_call ?_ (Drew.below (by assumption) _) (by first | omega | (simp <;> omega)))))
    clear hb5 hB4 f4_b0_0 f4_b0_1 f4_b1_0 f4_b1_1 f4_b2_0 f4_b2_1
    have l5_0 : w.heap.size < w5.heap.size := by omega
    have l5_1 : w2.heap.size < w5.heap.size := by omega
    have l5_2 : w3.heap.size < w5.heap.size := by omega
    have l5_3 : w4.heap.size < w5.heap.size := by omega
    clear l4_0 l4_1 l4_2
    go_wp2
    go_ret
    exact ⟨rfl, (by (try show Below _ _ _); repeat (first | (with_reducible refine Below.setCell ?_ (by first | omega | (simp <;> omega)) _) | (with_reducible refine Below.alloc ?_ (by first | omega | (simp <;> omega)) _) | (with_reducible refine Below.drew ?_) | (with_reducible exact Below.refl _ _) | (with_reducible exact hB5) | (with_reducible refine below_call ?_ (by assumption) (by first | omega | (simp <;> omega))) | (with_reducible refine below_call ?_ (Drew.below (by assumption) _) (by first | omega | (simp <;> omega)))))⟩


end Go.Proofs.Ytfohdafijfjefaa
