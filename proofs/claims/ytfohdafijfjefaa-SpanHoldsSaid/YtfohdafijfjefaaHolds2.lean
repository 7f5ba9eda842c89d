/- spilelaw01.SpanHolds: the walk (pos). -/
import Derived.Test.YtfohdafijfjefaaKnown1
import Derived.Test.YtfohdafijfjefaaHoldsFn
import Derived.Test.YtfohdafijfjefaaFlat
import Derived.Test.YtfohdafijfjefaaAid
set_option linter.unusedSimpArgs false
set_option linter.unusedVariables false
namespace Go.Proofs.Ytfohdafijfjefaa
open Go.RowKit Go.Shelf

set_option maxRecDepth 100000 in
set_option maxHeartbeats 8000000 in
theorem holds_pos (a0 a1 b0 b1 p0 p1 p2 : Int) (ha0 : -2147483648 ≤ a0 ∧ a0 ≤ 2147483647) (ha1 : -2147483648 ≤ a1 ∧ a1 ≤ 2147483647) (hb0 : -2147483648 ≤ b0 ∧ b0 ≤ 2147483647) (hb1 : -2147483648 ≤ b1 ∧ b1 ≤ 2147483647)
    (hp0 : 0 ≤ p0 ∧ p0 ≤ 4294967295) (hp1 : 0 ≤ p1 ∧ p1 ≤ 4294967295) (hp2 : 0 ≤ p2 ∧ p2 ≤ 4294967295) (hc : 0 < (min b0 b1).tdiv 200) (w : World) :
    Calls Try.prog 13 #[.agg #[.int .i32 a0, .int .i32 a1], .agg #[.int .i32 b0, .int .i32 b1], .agg #[.int .u32 p0, .int .u32 p1, .int .u32 p2]] w fun e w' => e = .returned (.bool true) ∧ Below w.heap.size w w' := by
  have tx := tdiv_mono (min a0 a1) (max a0 a1) (by omega) (by omega) (by omega)
  have ty := tdiv_mono (min b0 b1) (max b0 b1) (by omega) (by omega) (by omega)
  have hk := fun W => known1_any W
  generalize hX0 : (min a0 a1).tdiv 200 = x0 at *
  generalize hX1 : (max a0 a1).tdiv 200 = x1 at *
  generalize hY0 : (min b0 b1).tdiv 200 = y0 at *
  generalize hY1 : (max b0 b1).tdiv 200 = y1 at *
  have h1 := fun W => within_any x0 x1 p0 (by omega) hp0 W
  have h2 := fun W => within_any y0 y1 p1 (by omega) hp1 W
  have mb := pick_btw x0 x1 p0 tx.2.1 hp0.1
  have nb := pick_btw y0 y1 p1 ty.2.1 hp1.1
  generalize x0 + p0 % (x1 - x0 + 1) = m at h1 mb
  generalize y0 + p1 % (y1 - y0 + 1) = n at h2 nb
  have hd : 1 ≤ 1 + p2 % 1000 ∧ 1 + p2 % 1000 ≤ 1000 := by omega
  generalize hD : 1 + p2 % 1000 = d at *
  have S : Small x0 x1 y0 y1 m n := ⟨by omega, by omega, by omega, by omega, by omega, by omega, by omega, by omega⟩
  have S2 := S.rest
  have hS := fun A W h => Sum_any 0 A 2 2 [⟨x0, x1⟩, ⟨y0, y1⟩] W h rfl two_le
  have hL := fun W => Less_any x0 x1 y0 y1 W
  have hT := fun W => Times_any x0 x1 y0 y1 W
  have hC := fun W => scale_any x0 x1 n d W
  have hO := fun W => Over_any x0 x1 y0 y1 W
  have hS2 := fun A W h => Sum_any 0 A 2 2 [⟨m, x1⟩, ⟨y0, y1⟩] W h rfl two_le
  have hL2 := fun W => Less_any m x1 y0 y1 W
  have hT2 := fun W => Times_any m x1 y0 y1 W
  have hC2 := fun W => scale_any m x1 n d W
  have hH := fun A W h => Hull_any 0 A 2 2 [⟨x0, x1⟩, ⟨y0, y1⟩] W h rfl (Nat.le_refl _) two_le
  have hM := fun A W h => Meet_any 0 A 2 2 [⟨min x0 y0, max x1 y1⟩, ⟨x0, x1⟩] W h rfl (Nat.le_refl _) two_le
  rw [S.sum] at hS
  rw [S.less] at hL
  rw [S.times] at hT
  rw [S.scale d hd] at hC
  rw [S2.sum] at hS2
  rw [S2.less] at hL2
  rw [S2.times] at hT2
  rw [S2.scale d hd] at hC2
  rw [S.hull] at hH
  rw [S.meet] at hM
  have P := prod_btw x0 x1 y0 y1 m n S.m0 S.m1 S.n0 S.n1
  have K := S.kmul d hd
  have KB := S.kbd d hd
  have KL := S.klkh d hd
  have N := S.narrow d hd
  have B := S.bounds
  have mm := mul_small m n B.2.2.2.2.1 B.2.2.2.2.2
  have hc' : ¬ (y0 ≤ 0 ∧ 0 ≤ y1) := by omega
  rw [S.over hc'] at hO
  have Q := S.qlqh (by omega) (by omega)
  have QQ := S.over_pos hc
  have j1 := fun W => has_no y0 y1 0 (by omega) W
  generalize ql x0 x1 y0 y1 = q0 at *
  generalize qh x0 x1 y0 y1 = q1 at *
  have j2 := fun W => has_yes q0 q1 q0 (by omega) W
  have j3 := fun W => has_yes x0 x1 m (by omega) W
  have m1 := mul_small q0 n (by omega) B.2.2.2.2.2
  have m2 := mul_small q1 n (by omega) B.2.2.2.2.2
  have w1 : IntKind.i64.wrap (q0 * n) = q0 * n := by rw [IntKind.wrap_i64]; omega
  have w2 : IntKind.i64.wrap (q1 * n) = q1 * n := by rw [IntKind.wrap_i64]; omega
  have hn : ¬ n < 0 := by omega
  clear hc'  
  generalize pl x0 x1 y0 y1 = P0 at *
  generalize ph x0 x1 y0 y1 = P1 at *
  generalize kl x0 x1 n d = k0 at *
  generalize kh x0 x1 n d = k1 at *
  generalize pl m x1 y0 y1 = P2 at *
  generalize ph m x1 y0 y1 = P3 at *
  generalize kl m x1 n d = k2 at *
  generalize kh m x1 n d = k3 at *
  obtain ⟨N1, N2, N3⟩ := N
  obtain ⟨B1, B2, B3, B4, B5, B6⟩ := B
  have i1 := fun W => has_yes (x0 + y0) (x1 + y1) (m + n) (by omega) W
  have i2 := fun W => has_yes (x0 - y1) (x1 - y0) (m - n) (by omega) W
  have i3 := fun W => has_yes P0 P1 (m * n) P W
  have i4 := fun W => inside_yes (m + y0) (x1 + y1) (x0 + y0) (x1 + y1) (by omega) W
  have i5 := fun W => inside_yes (m - y1) (x1 - y0) (x0 - y1) (x1 - y0) (by omega) W
  have i6 := fun W => inside_yes P2 P3 P0 P1 (by omega) W
  have i7 := fun W => inside_yes k2 k3 k0 k1 (by omega) W
  have i8 := fun W => inside_yes x0 x1 (min x0 y0) (max x1 y1) (by omega) W
  have i9 := fun W => inside_yes y0 y1 (min x0 y0) (max x1 y1) (by omega) W
  simp only [RE] at hS hL hT hC hO hS2 hL2 hT2 hC2 hH hM
  clear S S2 mb nb N2 N3
  go_enter Try.func13, Try.ntmps13
  go_wp2_with fail
  refine (h1 _).mono ?_
  rintro e w1 ⟨rfl, hb1⟩
  have hz1 := hb1.size
  (try simp only [World.size_alloc, World.size_setCell, World.size_drew] at hz1)
  have f1_b0_0 : w1.cell? ⟨w.heap.size, 0, none⟩ = some (.int .i32 a0) := (hb1.cell (p := ⟨w.heap.size, 0, none⟩) (by show w.heap.size < _; first | omega | (simp only [World.size_alloc, World.size_setCell, World.size_drew]; omega))).trans (by simp [go_sem, cell_set])
  have f1_b0_1 : w1.cell? ⟨w.heap.size, 1, none⟩ = some (.int .i32 a1) := (hb1.cell (p := ⟨w.heap.size, 1, none⟩) (by show w.heap.size < _; first | omega | (simp only [World.size_alloc, World.size_setCell, World.size_drew]; omega))).trans (by simp [go_sem, cell_set])
  have f1_b1_0 : w1.cell? ⟨w.heap.size + 1, 0, none⟩ = some (.int .i32 b0) := (hb1.cell (p := ⟨w.heap.size + 1, 0, none⟩) (by show w.heap.size + 1 < _; first | omega | (simp only [World.size_alloc, World.size_setCell, World.size_drew]; omega))).trans (by simp [go_sem, cell_set])
  have f1_b1_1 : w1.cell? ⟨w.heap.size + 1, 1, none⟩ = some (.int .i32 b1) := (hb1.cell (p := ⟨w.heap.size + 1, 1, none⟩) (by show w.heap.size + 1 < _; first | omega | (simp only [World.size_alloc, World.size_setCell, World.size_drew]; omega))).trans (by simp [go_sem, cell_set])
  have f1_b2_0 : w1.cell? ⟨w.heap.size + 1 + 1, 0, none⟩ = some (.int .u32 p0) := (hb1.cell (p := ⟨w.heap.size + 1 + 1, 0, none⟩) (by show w.heap.size + 1 + 1 < _; first | omega | (simp only [World.size_alloc, World.size_setCell, World.size_drew]; omega))).trans (by simp [go_sem, cell_set])
  have f1_b2_1 : w1.cell? ⟨w.heap.size + 1 + 1, 1, none⟩ = some (.int .u32 p1) := (hb1.cell (p := ⟨w.heap.size + 1 + 1, 1, none⟩) (by show w.heap.size + 1 + 1 < _; first | omega | (simp only [World.size_alloc, World.size_setCell, World.size_drew]; omega))).trans (by simp [go_sem, cell_set])
  have f1_b2_2 : w1.cell? ⟨w.heap.size + 1 + 1, 2, none⟩ = some (.int .u32 p2) := (hb1.cell (p := ⟨w.heap.size + 1 + 1, 2, none⟩) (by show w.heap.size + 1 + 1 < _; first | omega | (simp only [World.size_alloc, World.size_setCell, World.size_drew]; omega))).trans (by simp [go_sem, cell_set])
  have f1_b3_0 : w1.cell? ⟨w.heap.size + 1 + 1 + 1, 0, none⟩ = some (.int .i64 x0) := (hb1.cell (p := ⟨w.heap.size + 1 + 1 + 1, 0, none⟩) (by show w.heap.size + 1 + 1 + 1 < _; first | omega | (simp only [World.size_alloc, World.size_setCell, World.size_drew]; omega))).trans (by simp [go_sem, cell_set])
  have f1_b3_1 : w1.cell? ⟨w.heap.size + 1 + 1 + 1, 1, none⟩ = some (.int .i64 x1) := (hb1.cell (p := ⟨w.heap.size + 1 + 1 + 1, 1, none⟩) (by show w.heap.size + 1 + 1 + 1 < _; first | omega | (simp only [World.size_alloc, World.size_setCell, World.size_drew]; omega))).trans (by simp [go_sem, cell_set])
  have f1_b4_0 : w1.cell? ⟨w.heap.size + 1 + 1 + 1 + 1, 0, none⟩ = some (.int .i64 y0) := (hb1.cell (p := ⟨w.heap.size + 1 + 1 + 1 + 1, 0, none⟩) (by show w.heap.size + 1 + 1 + 1 + 1 < _; first | omega | (simp only [World.size_alloc, World.size_setCell, World.size_drew]; omega))).trans (by simp [go_sem, cell_set])
  have f1_b4_1 : w1.cell? ⟨w.heap.size + 1 + 1 + 1 + 1, 1, none⟩ = some (.int .i64 y1) := (hb1.cell (p := ⟨w.heap.size + 1 + 1 + 1 + 1, 1, none⟩) (by show w.heap.size + 1 + 1 + 1 + 1 < _; first | omega | (simp only [World.size_alloc, World.size_setCell, World.size_drew]; omega))).trans (by simp [go_sem, cell_set])
  have hB1 : Below w.heap.size w w1 := (by (try show Below _ _ _); repeat (first | (with_reducible refine Below.setCell ?_ (by first | omega | (simp <;> omega)) _) | (with_reducible refine Below.alloc ?_ (by first | omega | (simp <;> omega)) _) | (with_reducible refine Below.drew ?_) | (with_reducible exact Below.refl _ _) | (with_reducible exact Below.refl _ _) | (with_reducible refine below_call ?_ hb1 (by first | omega | (simp <;> omega))) | (with_reducible refine below_call ?_ (Drew.below hb1 _) (by first | omega | (simp <;> omega)))))
  clear hb1 
  have l1_0 : w.heap.size < w1.heap.size := by omega
  have l1_1 : w.heap.size + 1 < w1.heap.size := by omega
  have l1_2 : w.heap.size + 1 + 1 < w1.heap.size := by omega
  have l1_3 : w.heap.size + 1 + 1 + 1 < w1.heap.size := by omega
  have l1_4 : w.heap.size + 1 + 1 + 1 + 1 < w1.heap.size := by omega
  go_wp2_with fail
  refine (h2 _).mono ?_
  rintro e w2 ⟨rfl, hb2⟩
  have hz2 := hb2.size
  (try simp only [World.size_alloc, World.size_setCell, World.size_drew] at hz2)
  have f2_b0_0 := up0 hb2 (by omega) f1_b0_0
  have f2_b0_1 := up0 hb2 (by omega) f1_b0_1
  have f2_b1_0 := up0 hb2 (by omega) f1_b1_0
  have f2_b1_1 := up0 hb2 (by omega) f1_b1_1
  have f2_b2_0 := up0 hb2 (by omega) f1_b2_0
  have f2_b2_1 := up0 hb2 (by omega) f1_b2_1
  have f2_b2_2 := up0 hb2 (by omega) f1_b2_2
  have f2_b3_0 := up0 hb2 (by omega) f1_b3_0
  have f2_b3_1 := up0 hb2 (by omega) f1_b3_1
  have f2_b4_0 := up0 hb2 (by omega) f1_b4_0
  have f2_b4_1 := up0 hb2 (by omega) f1_b4_1
  have hB2 : Below w.heap.size w w2 := (by (try show Below _ _ _); repeat (first | (with_reducible refine Below.setCell ?_ (by first | omega | (simp <;> omega)) _) | (with_reducible refine Below.alloc ?_ (by first | omega | (simp <;> omega)) _) | (with_reducible refine Below.drew ?_) | (with_reducible exact Below.refl _ _) | (with_reducible exact hB1) | (with_reducible refine below_call ?_ hb2 (by first | omega | (simp <;> omega))) | (with_reducible refine below_call ?_ (Drew.below hb2 _) (by first | omega | (simp <;> omega)))))
  clear hb2 hB1 f1_b0_0 f1_b0_1 f1_b1_0 f1_b1_1 f1_b2_0 f1_b2_1 f1_b2_2 f1_b3_0 f1_b3_1 f1_b4_0 f1_b4_1
  have l2_0 : w.heap.size < w2.heap.size := by omega
  have l2_1 : w.heap.size + 1 < w2.heap.size := by omega
  have l2_2 : w.heap.size + 1 + 1 < w2.heap.size := by omega
  have l2_3 : w.heap.size + 1 + 1 + 1 < w2.heap.size := by omega
  have l2_4 : w.heap.size + 1 + 1 + 1 + 1 < w2.heap.size := by omega
  clear l1_0 l1_1 l1_2 l1_3 l1_4
  go_wp2_with fail
  refine (hS _ _ (Elems.of2 (by simp [go_sem]) (by simp [go_sem]) (by simp [go_sem]) (by simp [go_sem]) (by simp))).mono ?_
  rintro e w3 ⟨rfl, hb3⟩
  have hz3 := hb3.size
  (try simp only [World.size_alloc, World.size_setCell, World.size_drew] at hz3)
  have f3_b0_0 := up2 hb3 (by omega) f2_b0_0
  have f3_b0_1 := up2 hb3 (by omega) f2_b0_1
  have f3_b1_0 := up2 hb3 (by omega) f2_b1_0
  have f3_b1_1 := up2 hb3 (by omega) f2_b1_1
  have f3_b2_0 := up2 hb3 (by omega) f2_b2_0
  have f3_b2_1 := up2 hb3 (by omega) f2_b2_1
  have f3_b2_2 := up2 hb3 (by omega) f2_b2_2
  have f3_b3_0 := up2 hb3 (by omega) f2_b3_0
  have f3_b3_1 := up2 hb3 (by omega) f2_b3_1
  have f3_b4_0 := up2 hb3 (by omega) f2_b4_0
  have f3_b4_1 := up2 hb3 (by omega) f2_b4_1
  have f3_b5_0 : w3.cell? ⟨w2.heap.size, 0, none⟩ = some (.int .i64 m) := (hb3.cell (p := ⟨w2.heap.size, 0, none⟩) (by show w2.heap.size < _; first | omega | (simp only [World.size_alloc, World.size_setCell, World.size_drew]; omega))).trans (by simp [go_sem, cell_set])
  have f3_b5_1 : w3.cell? ⟨w2.heap.size, 1, none⟩ = some (.int .i64 x1) := (hb3.cell (p := ⟨w2.heap.size, 1, none⟩) (by show w2.heap.size < _; first | omega | (simp only [World.size_alloc, World.size_setCell, World.size_drew]; omega))).trans (by simp [go_sem, cell_set])
  have f3_b6_0 : w3.cell? ⟨w2.heap.size + 1, 0, none⟩ = some (.int .i64 x0) := (hb3.cell (p := ⟨w2.heap.size + 1, 0, none⟩) (by show w2.heap.size + 1 < _; first | omega | (simp only [World.size_alloc, World.size_setCell, World.size_drew]; omega))).trans (by simp [go_sem, cell_set])
  have f3_b6_1 : w3.cell? ⟨w2.heap.size + 1, 1, none⟩ = some (.int .i64 x1) := (hb3.cell (p := ⟨w2.heap.size + 1, 1, none⟩) (by show w2.heap.size + 1 < _; first | omega | (simp only [World.size_alloc, World.size_setCell, World.size_drew]; omega))).trans (by simp [go_sem, cell_set])
  have f3_b6_2 : w3.cell? ⟨w2.heap.size + 1, 2, none⟩ = some (.int .i64 y0) := (hb3.cell (p := ⟨w2.heap.size + 1, 2, none⟩) (by show w2.heap.size + 1 < _; first | omega | (simp only [World.size_alloc, World.size_setCell, World.size_drew]; omega))).trans (by simp [go_sem, cell_set])
  have f3_b6_3 : w3.cell? ⟨w2.heap.size + 1, 3, none⟩ = some (.int .i64 y1) := (hb3.cell (p := ⟨w2.heap.size + 1, 3, none⟩) (by show w2.heap.size + 1 < _; first | omega | (simp only [World.size_alloc, World.size_setCell, World.size_drew]; omega))).trans (by simp [go_sem, cell_set])
  have hB3 : Below w.heap.size w w3 := (by (try show Below _ _ _); repeat (first | (with_reducible refine Below.setCell ?_ (by first | omega | (simp <;> omega)) _) | (with_reducible refine Below.alloc ?_ (by first | omega | (simp <;> omega)) _) | (with_reducible refine Below.drew ?_) | (with_reducible exact Below.refl _ _) | (with_reducible exact hB2) | (with_reducible refine below_call ?_ hb3 (by first | omega | (simp <;> omega))) | (with_reducible refine below_call ?_ (Drew.below hb3 _) (by first | omega | (simp <;> omega)))))
  clear hb3 hB2 f2_b0_0 f2_b0_1 f2_b1_0 f2_b1_1 f2_b2_0 f2_b2_1 f2_b2_2 f2_b3_0 f2_b3_1 f2_b4_0 f2_b4_1
  have l3_0 : w.heap.size < w3.heap.size := by omega
  have l3_1 : w.heap.size + 1 < w3.heap.size := by omega
  have l3_2 : w.heap.size + 1 + 1 < w3.heap.size := by omega
  have l3_3 : w.heap.size + 1 + 1 + 1 < w3.heap.size := by omega
  have l3_4 : w.heap.size + 1 + 1 + 1 + 1 < w3.heap.size := by omega
  have l3_5 : w2.heap.size < w3.heap.size := by omega
  have l3_6 : w2.heap.size + 1 < w3.heap.size := by omega
  clear l2_0 l2_1 l2_2 l2_3 l2_4
  go_wp2_with fail
  refine (hL _).mono ?_
  rintro e w4 ⟨rfl, hb4⟩
  have hz4 := hb4.size
  (try simp only [World.size_alloc, World.size_setCell, World.size_drew] at hz4)
  have f4_b0_0 := up1 hb4 (by omega) f3_b0_0
  have f4_b0_1 := up1 hb4 (by omega) f3_b0_1
  have f4_b1_0 := up1 hb4 (by omega) f3_b1_0
  have f4_b1_1 := up1 hb4 (by omega) f3_b1_1
  have f4_b2_0 := up1 hb4 (by omega) f3_b2_0
  have f4_b2_1 := up1 hb4 (by omega) f3_b2_1
  have f4_b2_2 := up1 hb4 (by omega) f3_b2_2
  have f4_b3_0 := up1 hb4 (by omega) f3_b3_0
  have f4_b3_1 := up1 hb4 (by omega) f3_b3_1
  have f4_b4_0 := up1 hb4 (by omega) f3_b4_0
  have f4_b4_1 := up1 hb4 (by omega) f3_b4_1
  have f4_b5_0 := up1 hb4 (by omega) f3_b5_0
  have f4_b5_1 := up1 hb4 (by omega) f3_b5_1
  have f4_b6_0 := up1 hb4 (by omega) f3_b6_0
  have f4_b6_1 := up1 hb4 (by omega) f3_b6_1
  have f4_b6_2 := up1 hb4 (by omega) f3_b6_2
  have f4_b6_3 := up1 hb4 (by omega) f3_b6_3
  have f4_b7_0 : w4.cell? ⟨w3.heap.size, 0, none⟩ = some (.int .i64 ((x0 + y0))) := (hb4.cell (p := ⟨w3.heap.size, 0, none⟩) (by show w3.heap.size < _; first | omega | (simp only [World.size_alloc, World.size_setCell, World.size_drew]; omega))).trans (by simp [go_sem, cell_set])
  have f4_b7_1 : w4.cell? ⟨w3.heap.size, 1, none⟩ = some (.int .i64 ((x1 + y1))) := (hb4.cell (p := ⟨w3.heap.size, 1, none⟩) (by show w3.heap.size < _; first | omega | (simp only [World.size_alloc, World.size_setCell, World.size_drew]; omega))).trans (by simp [go_sem, cell_set])
  have hB4 : Below w.heap.size w w4 := (by (try show Below _ _ _); repeat (first | (with_reducible refine Below.setCell ?_ (by first | omega | (simp <;> omega)) _) | (with_reducible refine Below.alloc ?_ (by first | omega | (simp <;> omega)) _) | (with_reducible refine Below.drew ?_) | (with_reducible exact Below.refl _ _) | (with_reducible exact hB3) | (with_reducible refine below_call ?_ hb4 (by first | omega | (simp <;> omega))) | (with_reducible refine below_call ?_ (Drew.below hb4 _) (by first | omega | (simp <;> omega)))))
  clear hb4 hB3 f3_b0_0 f3_b0_1 f3_b1_0 f3_b1_1 f3_b2_0 f3_b2_1 f3_b2_2 f3_b3_0 f3_b3_1 f3_b4_0 f3_b4_1 f3_b5_0 f3_b5_1 f3_b6_0 f3_b6_1 f3_b6_2 f3_b6_3
  have l4_0 : w.heap.size < w4.heap.size := by omega
  have l4_1 : w.heap.size + 1 < w4.heap.size := by omega
  have l4_2 : w.heap.size + 1 + 1 < w4.heap.size := by omega
  have l4_3 : w.heap.size + 1 + 1 + 1 < w4.heap.size := by omega
  have l4_4 : w.heap.size + 1 + 1 + 1 + 1 < w4.heap.size := by omega
  have l4_5 : w2.heap.size < w4.heap.size := by omega
  have l4_6 : w2.heap.size + 1 < w4.heap.size := by omega
  have l4_7 : w3.heap.size < w4.heap.size := by omega
  clear l3_0 l3_1 l3_2 l3_3 l3_4 l3_5 l3_6
  go_wp2_with fail
  refine (hT _).mono ?_
  rintro e w5 ⟨rfl, hb5⟩
  have hz5 := hb5.size
  (try simp only [World.size_alloc, World.size_setCell, World.size_drew] at hz5)
  have f5_b0_0 := up1 hb5 (by omega) f4_b0_0
  have f5_b0_1 := up1 hb5 (by omega) f4_b0_1
  have f5_b1_0 := up1 hb5 (by omega) f4_b1_0
  have f5_b1_1 := up1 hb5 (by omega) f4_b1_1
  have f5_b2_0 := up1 hb5 (by omega) f4_b2_0
  have f5_b2_1 := up1 hb5 (by omega) f4_b2_1
  have f5_b2_2 := up1 hb5 (by omega) f4_b2_2
  have f5_b3_0 := up1 hb5 (by omega) f4_b3_0
  have f5_b3_1 := up1 hb5 (by omega) f4_b3_1
  have f5_b4_0 := up1 hb5 (by omega) f4_b4_0
  have f5_b4_1 := up1 hb5 (by omega) f4_b4_1
  have f5_b5_0 := up1 hb5 (by omega) f4_b5_0
  have f5_b5_1 := up1 hb5 (by omega) f4_b5_1
  have f5_b6_0 := up1 hb5 (by omega) f4_b6_0
  have f5_b6_1 := up1 hb5 (by omega) f4_b6_1
  have f5_b6_2 := up1 hb5 (by omega) f4_b6_2
  have f5_b6_3 := up1 hb5 (by omega) f4_b6_3
  have f5_b7_0 := up1 hb5 (by omega) f4_b7_0
  have f5_b7_1 := up1 hb5 (by omega) f4_b7_1
  have f5_b8_0 : w5.cell? ⟨w4.heap.size, 0, none⟩ = some (.int .i64 ((x0 - y1))) := (hb5.cell (p := ⟨w4.heap.size, 0, none⟩) (by show w4.heap.size < _; first | omega | (simp only [World.size_alloc, World.size_setCell, World.size_drew]; omega))).trans (by simp [go_sem, cell_set])
  have f5_b8_1 : w5.cell? ⟨w4.heap.size, 1, none⟩ = some (.int .i64 ((x1 - y0))) := (hb5.cell (p := ⟨w4.heap.size, 1, none⟩) (by show w4.heap.size < _; first | omega | (simp only [World.size_alloc, World.size_setCell, World.size_drew]; omega))).trans (by simp [go_sem, cell_set])
  have hB5 : Below w.heap.size w w5 := (by (try show Below _ _ _); repeat (first | (with_reducible refine Below.setCell ?_ (by first | omega | (simp <;> omega)) _) | (with_reducible refine Below.alloc ?_ (by first | omega | (simp <;> omega)) _) | (with_reducible refine Below.drew ?_) | (with_reducible exact Below.refl _ _) | (with_reducible exact hB4) | (with_reducible refine below_call ?_ hb5 (by first | omega | (simp <;> omega))) | (with_reducible refine below_call ?_ (Drew.below hb5 _) (by first | omega | (simp <;> omega)))))
  clear hb5 hB4 f4_b0_0 f4_b0_1 f4_b1_0 f4_b1_1 f4_b2_0 f4_b2_1 f4_b2_2 f4_b3_0 f4_b3_1 f4_b4_0 f4_b4_1 f4_b5_0 f4_b5_1 f4_b6_0 f4_b6_1 f4_b6_2 f4_b6_3 f4_b7_0 f4_b7_1
  have l5_0 : w.heap.size < w5.heap.size := by omega
  have l5_1 : w.heap.size + 1 < w5.heap.size := by omega
  have l5_2 : w.heap.size + 1 + 1 < w5.heap.size := by omega
  have l5_3 : w.heap.size + 1 + 1 + 1 < w5.heap.size := by omega
  have l5_4 : w.heap.size + 1 + 1 + 1 + 1 < w5.heap.size := by omega
  have l5_5 : w2.heap.size < w5.heap.size := by omega
  have l5_6 : w2.heap.size + 1 < w5.heap.size := by omega
  have l5_7 : w3.heap.size < w5.heap.size := by omega
  have l5_8 : w4.heap.size < w5.heap.size := by omega
  clear l4_0 l4_1 l4_2 l4_3 l4_4 l4_5 l4_6 l4_7
  go_wp2_with fail
  refine (hC _).mono ?_
  rintro e w6 ⟨rfl, hb6⟩
  have hz6 := hb6.size
  (try simp only [World.size_alloc, World.size_setCell, World.size_drew] at hz6)
  have f6_b0_0 := up1 hb6 (by omega) f5_b0_0
  have f6_b0_1 := up1 hb6 (by omega) f5_b0_1
  have f6_b1_0 := up1 hb6 (by omega) f5_b1_0
  have f6_b1_1 := up1 hb6 (by omega) f5_b1_1
  have f6_b2_0 := up1 hb6 (by omega) f5_b2_0
  have f6_b2_1 := up1 hb6 (by omega) f5_b2_1
  have f6_b2_2 := up1 hb6 (by omega) f5_b2_2
  have f6_b3_0 := up1 hb6 (by omega) f5_b3_0
  have f6_b3_1 := up1 hb6 (by omega) f5_b3_1
  have f6_b4_0 := up1 hb6 (by omega) f5_b4_0
  have f6_b4_1 := up1 hb6 (by omega) f5_b4_1
  have f6_b5_0 := up1 hb6 (by omega) f5_b5_0
  have f6_b5_1 := up1 hb6 (by omega) f5_b5_1
  have f6_b6_0 := up1 hb6 (by omega) f5_b6_0
  have f6_b6_1 := up1 hb6 (by omega) f5_b6_1
  have f6_b6_2 := up1 hb6 (by omega) f5_b6_2
  have f6_b6_3 := up1 hb6 (by omega) f5_b6_3
  have f6_b7_0 := up1 hb6 (by omega) f5_b7_0
  have f6_b7_1 := up1 hb6 (by omega) f5_b7_1
  have f6_b8_0 := up1 hb6 (by omega) f5_b8_0
  have f6_b8_1 := up1 hb6 (by omega) f5_b8_1
  have f6_b9_0 : w6.cell? ⟨w5.heap.size, 0, none⟩ = some (.int .i64 P0) := (hb6.cell (p := ⟨w5.heap.size, 0, none⟩) (by show w5.heap.size < _; first | omega | (simp only [World.size_alloc, World.size_setCell, World.size_drew]; omega))).trans (by simp [go_sem, cell_set])
  have f6_b9_1 : w6.cell? ⟨w5.heap.size, 1, none⟩ = some (.int .i64 P1) := (hb6.cell (p := ⟨w5.heap.size, 1, none⟩) (by show w5.heap.size < _; first | omega | (simp only [World.size_alloc, World.size_setCell, World.size_drew]; omega))).trans (by simp [go_sem, cell_set])
  have hB6 : Below w.heap.size w w6 := (by (try show Below _ _ _); repeat (first | (with_reducible refine Below.setCell ?_ (by first | omega | (simp <;> omega)) _) | (with_reducible refine Below.alloc ?_ (by first | omega | (simp <;> omega)) _) | (with_reducible refine Below.drew ?_) | (with_reducible exact Below.refl _ _) | (with_reducible exact hB5) | (with_reducible refine below_call ?_ hb6 (by first | omega | (simp <;> omega))) | (with_reducible refine below_call ?_ (Drew.below hb6 _) (by first | omega | (simp <;> omega)))))
  clear hb6 hB5 f5_b0_0 f5_b0_1 f5_b1_0 f5_b1_1 f5_b2_0 f5_b2_1 f5_b2_2 f5_b3_0 f5_b3_1 f5_b4_0 f5_b4_1 f5_b5_0 f5_b5_1 f5_b6_0 f5_b6_1 f5_b6_2 f5_b6_3 f5_b7_0 f5_b7_1 f5_b8_0 f5_b8_1
  have l6_0 : w.heap.size < w6.heap.size := by omega
  have l6_1 : w.heap.size + 1 < w6.heap.size := by omega
  have l6_2 : w.heap.size + 1 + 1 < w6.heap.size := by omega
  have l6_3 : w.heap.size + 1 + 1 + 1 < w6.heap.size := by omega
  have l6_4 : w.heap.size + 1 + 1 + 1 + 1 < w6.heap.size := by omega
  have l6_5 : w2.heap.size < w6.heap.size := by omega
  have l6_6 : w2.heap.size + 1 < w6.heap.size := by omega
  have l6_7 : w3.heap.size < w6.heap.size := by omega
  have l6_8 : w4.heap.size < w6.heap.size := by omega
  have l6_9 : w5.heap.size < w6.heap.size := by omega
  clear l5_0 l5_1 l5_2 l5_3 l5_4 l5_5 l5_6 l5_7 l5_8
  go_wp2_with fail
  refine (i1 _).mono ?_
  rintro e w7 ⟨rfl, hb7⟩
  have hz7 := hb7.size
  (try simp only [World.size_alloc, World.size_setCell, World.size_drew] at hz7)
  have f7_b0_0 := up1 hb7 (by omega) f6_b0_0
  have f7_b0_1 := up1 hb7 (by omega) f6_b0_1
  have f7_b1_0 := up1 hb7 (by omega) f6_b1_0
  have f7_b1_1 := up1 hb7 (by omega) f6_b1_1
  have f7_b2_0 := up1 hb7 (by omega) f6_b2_0
  have f7_b2_1 := up1 hb7 (by omega) f6_b2_1
  have f7_b2_2 := up1 hb7 (by omega) f6_b2_2
  have f7_b3_0 := up1 hb7 (by omega) f6_b3_0
  have f7_b3_1 := up1 hb7 (by omega) f6_b3_1
  have f7_b4_0 := up1 hb7 (by omega) f6_b4_0
  have f7_b4_1 := up1 hb7 (by omega) f6_b4_1
  have f7_b5_0 := up1 hb7 (by omega) f6_b5_0
  have f7_b5_1 := up1 hb7 (by omega) f6_b5_1
  have f7_b6_0 := up1 hb7 (by omega) f6_b6_0
  have f7_b6_1 := up1 hb7 (by omega) f6_b6_1
  have f7_b6_2 := up1 hb7 (by omega) f6_b6_2
  have f7_b6_3 := up1 hb7 (by omega) f6_b6_3
  have f7_b7_0 := up1 hb7 (by omega) f6_b7_0
  have f7_b7_1 := up1 hb7 (by omega) f6_b7_1
  have f7_b8_0 := up1 hb7 (by omega) f6_b8_0
  have f7_b8_1 := up1 hb7 (by omega) f6_b8_1
  have f7_b9_0 := up1 hb7 (by omega) f6_b9_0
  have f7_b9_1 := up1 hb7 (by omega) f6_b9_1
  have f7_b10_0 : w7.cell? ⟨w6.heap.size, 0, none⟩ = some (.int .i64 k0) := (hb7.cell (p := ⟨w6.heap.size, 0, none⟩) (by show w6.heap.size < _; first | omega | (simp only [World.size_alloc, World.size_setCell, World.size_drew]; omega))).trans (by simp [go_sem, cell_set])
  have f7_b10_1 : w7.cell? ⟨w6.heap.size, 1, none⟩ = some (.int .i64 k1) := (hb7.cell (p := ⟨w6.heap.size, 1, none⟩) (by show w6.heap.size < _; first | omega | (simp only [World.size_alloc, World.size_setCell, World.size_drew]; omega))).trans (by simp [go_sem, cell_set])
  have hB7 : Below w.heap.size w w7 := (by (try show Below _ _ _); repeat (first | (with_reducible refine Below.setCell ?_ (by first | omega | (simp <;> omega)) _) | (with_reducible refine Below.alloc ?_ (by first | omega | (simp <;> omega)) _) | (with_reducible refine Below.drew ?_) | (with_reducible exact Below.refl _ _) | (with_reducible exact hB6) | (with_reducible refine below_call ?_ hb7 (by first | omega | (simp <;> omega))) | (with_reducible refine below_call ?_ (Drew.below hb7 _) (by first | omega | (simp <;> omega)))))
  clear hb7 hB6 f6_b0_0 f6_b0_1 f6_b1_0 f6_b1_1 f6_b2_0 f6_b2_1 f6_b2_2 f6_b3_0 f6_b3_1 f6_b4_0 f6_b4_1 f6_b5_0 f6_b5_1 f6_b6_0 f6_b6_1 f6_b6_2 f6_b6_3 f6_b7_0 f6_b7_1 f6_b8_0 f6_b8_1 f6_b9_0 f6_b9_1
  have l7_0 : w.heap.size < w7.heap.size := by omega
  have l7_1 : w.heap.size + 1 < w7.heap.size := by omega
  have l7_2 : w.heap.size + 1 + 1 < w7.heap.size := by omega
  have l7_3 : w.heap.size + 1 + 1 + 1 < w7.heap.size := by omega
  have l7_4 : w.heap.size + 1 + 1 + 1 + 1 < w7.heap.size := by omega
  have l7_5 : w2.heap.size < w7.heap.size := by omega
  have l7_6 : w2.heap.size + 1 < w7.heap.size := by omega
  have l7_7 : w3.heap.size < w7.heap.size := by omega
  have l7_8 : w4.heap.size < w7.heap.size := by omega
  have l7_9 : w5.heap.size < w7.heap.size := by omega
  have l7_10 : w6.heap.size < w7.heap.size := by omega
  clear l6_0 l6_1 l6_2 l6_3 l6_4 l6_5 l6_6 l6_7 l6_8 l6_9
  go_wp2_with fail
  refine (i2 _).mono ?_
  rintro e w8 ⟨rfl, hb8⟩
  have hz8 := hb8.size
  (try simp only [World.size_alloc, World.size_setCell, World.size_drew] at hz8)
  have f8_b0_0 := up0 hb8 (by omega) f7_b0_0
  have f8_b0_1 := up0 hb8 (by omega) f7_b0_1
  have f8_b1_0 := up0 hb8 (by omega) f7_b1_0
  have f8_b1_1 := up0 hb8 (by omega) f7_b1_1
  have f8_b2_0 := up0 hb8 (by omega) f7_b2_0
  have f8_b2_1 := up0 hb8 (by omega) f7_b2_1
  have f8_b2_2 := up0 hb8 (by omega) f7_b2_2
  have f8_b3_0 := up0 hb8 (by omega) f7_b3_0
  have f8_b3_1 := up0 hb8 (by omega) f7_b3_1
  have f8_b4_0 := up0 hb8 (by omega) f7_b4_0
  have f8_b4_1 := up0 hb8 (by omega) f7_b4_1
  have f8_b5_0 := up0 hb8 (by omega) f7_b5_0
  have f8_b5_1 := up0 hb8 (by omega) f7_b5_1
  have f8_b6_0 := up0 hb8 (by omega) f7_b6_0
  have f8_b6_1 := up0 hb8 (by omega) f7_b6_1
  have f8_b6_2 := up0 hb8 (by omega) f7_b6_2
  have f8_b6_3 := up0 hb8 (by omega) f7_b6_3
  have f8_b7_0 := up0 hb8 (by omega) f7_b7_0
  have f8_b7_1 := up0 hb8 (by omega) f7_b7_1
  have f8_b8_0 := up0 hb8 (by omega) f7_b8_0
  have f8_b8_1 := up0 hb8 (by omega) f7_b8_1
  have f8_b9_0 := up0 hb8 (by omega) f7_b9_0
  have f8_b9_1 := up0 hb8 (by omega) f7_b9_1
  have f8_b10_0 := up0 hb8 (by omega) f7_b10_0
  have f8_b10_1 := up0 hb8 (by omega) f7_b10_1
  have hB8 : Below w.heap.size w w8 := (by (try show Below _ _ _); repeat (first | (with_reducible refine Below.setCell ?_ (by first | omega | (simp <;> omega)) _) | (with_reducible refine Below.alloc ?_ (by first | omega | (simp <;> omega)) _) | (with_reducible refine Below.drew ?_) | (with_reducible exact Below.refl _ _) | (with_reducible exact hB7) | (with_reducible refine below_call ?_ hb8 (by first | omega | (simp <;> omega))) | (with_reducible refine below_call ?_ (Drew.below hb8 _) (by first | omega | (simp <;> omega)))))
  clear hb8 hB7 f7_b0_0 f7_b0_1 f7_b1_0 f7_b1_1 f7_b2_0 f7_b2_1 f7_b2_2 f7_b3_0 f7_b3_1 f7_b4_0 f7_b4_1 f7_b5_0 f7_b5_1 f7_b6_0 f7_b6_1 f7_b6_2 f7_b6_3 f7_b7_0 f7_b7_1 f7_b8_0 f7_b8_1 f7_b9_0 f7_b9_1 f7_b10_0 f7_b10_1
  have l8_0 : w.heap.size < w8.heap.size := by omega
  have l8_1 : w.heap.size + 1 < w8.heap.size := by omega
  have l8_2 : w.heap.size + 1 + 1 < w8.heap.size := by omega
  have l8_3 : w.heap.size + 1 + 1 + 1 < w8.heap.size := by omega
  have l8_4 : w.heap.size + 1 + 1 + 1 + 1 < w8.heap.size := by omega
  have l8_5 : w2.heap.size < w8.heap.size := by omega
  have l8_6 : w2.heap.size + 1 < w8.heap.size := by omega
  have l8_7 : w3.heap.size < w8.heap.size := by omega
  have l8_8 : w4.heap.size < w8.heap.size := by omega
  have l8_9 : w5.heap.size < w8.heap.size := by omega
  have l8_10 : w6.heap.size < w8.heap.size := by omega
  clear l7_0 l7_1 l7_2 l7_3 l7_4 l7_5 l7_6 l7_7 l7_8 l7_9 l7_10
  go_wp2_with fail
  refine (i3 _).mono ?_
  rintro e w9 ⟨rfl, hb9⟩
  have hz9 := hb9.size
  (try simp only [World.size_alloc, World.size_setCell, World.size_drew] at hz9)
  have f9_b0_0 := up0 hb9 (by omega) f8_b0_0
  have f9_b0_1 := up0 hb9 (by omega) f8_b0_1
  have f9_b1_0 := up0 hb9 (by omega) f8_b1_0
  have f9_b1_1 := up0 hb9 (by omega) f8_b1_1
  have f9_b2_0 := up0 hb9 (by omega) f8_b2_0
  have f9_b2_1 := up0 hb9 (by omega) f8_b2_1
  have f9_b2_2 := up0 hb9 (by omega) f8_b2_2
  have f9_b3_0 := up0 hb9 (by omega) f8_b3_0
  have f9_b3_1 := up0 hb9 (by omega) f8_b3_1
  have f9_b4_0 := up0 hb9 (by omega) f8_b4_0
  have f9_b4_1 := up0 hb9 (by omega) f8_b4_1
  have f9_b5_0 := up0 hb9 (by omega) f8_b5_0
  have f9_b5_1 := up0 hb9 (by omega) f8_b5_1
  have f9_b6_0 := up0 hb9 (by omega) f8_b6_0
  have f9_b6_1 := up0 hb9 (by omega) f8_b6_1
  have f9_b6_2 := up0 hb9 (by omega) f8_b6_2
  have f9_b6_3 := up0 hb9 (by omega) f8_b6_3
  have f9_b7_0 := up0 hb9 (by omega) f8_b7_0
  have f9_b7_1 := up0 hb9 (by omega) f8_b7_1
  have f9_b8_0 := up0 hb9 (by omega) f8_b8_0
  have f9_b8_1 := up0 hb9 (by omega) f8_b8_1
  have f9_b9_0 := up0 hb9 (by omega) f8_b9_0
  have f9_b9_1 := up0 hb9 (by omega) f8_b9_1
  have f9_b10_0 := up0 hb9 (by omega) f8_b10_0
  have f9_b10_1 := up0 hb9 (by omega) f8_b10_1
  have hB9 : Below w.heap.size w w9 := (by (try show Below _ _ _); repeat (first | (with_reducible refine Below.setCell ?_ (by first | omega | (simp <;> omega)) _) | (with_reducible refine Below.alloc ?_ (by first | omega | (simp <;> omega)) _) | (with_reducible refine Below.drew ?_) | (with_reducible exact Below.refl _ _) | (with_reducible exact hB8) | (with_reducible refine below_call ?_ hb9 (by first | omega | (simp <;> omega))) | (with_reducible refine below_call ?_ (Drew.below hb9 _) (by first | omega | (simp <;> omega)))))
  clear hb9 hB8 f8_b0_0 f8_b0_1 f8_b1_0 f8_b1_1 f8_b2_0 f8_b2_1 f8_b2_2 f8_b3_0 f8_b3_1 f8_b4_0 f8_b4_1 f8_b5_0 f8_b5_1 f8_b6_0 f8_b6_1 f8_b6_2 f8_b6_3 f8_b7_0 f8_b7_1 f8_b8_0 f8_b8_1 f8_b9_0 f8_b9_1 f8_b10_0 f8_b10_1
  have l9_0 : w.heap.size < w9.heap.size := by omega
  have l9_1 : w.heap.size + 1 < w9.heap.size := by omega
  have l9_2 : w.heap.size + 1 + 1 < w9.heap.size := by omega
  have l9_3 : w.heap.size + 1 + 1 + 1 < w9.heap.size := by omega
  have l9_4 : w.heap.size + 1 + 1 + 1 + 1 < w9.heap.size := by omega
  have l9_5 : w2.heap.size < w9.heap.size := by omega
  have l9_6 : w2.heap.size + 1 < w9.heap.size := by omega
  have l9_7 : w3.heap.size < w9.heap.size := by omega
  have l9_8 : w4.heap.size < w9.heap.size := by omega
  have l9_9 : w5.heap.size < w9.heap.size := by omega
  have l9_10 : w6.heap.size < w9.heap.size := by omega
  clear l8_0 l8_1 l8_2 l8_3 l8_4 l8_5 l8_6 l8_7 l8_8 l8_9 l8_10
  go_wp2_with fail
  refine (hO _).mono ?_
  rintro e w10 ⟨rfl, hb10⟩
  have hz10 := hb10.size
  (try simp only [World.size_alloc, World.size_setCell, World.size_drew] at hz10)
  have f10_b0_0 := up0 hb10 (by omega) f9_b0_0
  have f10_b0_1 := up0 hb10 (by omega) f9_b0_1
  have f10_b1_0 := up0 hb10 (by omega) f9_b1_0
  have f10_b1_1 := up0 hb10 (by omega) f9_b1_1
  have f10_b2_0 := up0 hb10 (by omega) f9_b2_0
  have f10_b2_1 := up0 hb10 (by omega) f9_b2_1
  have f10_b2_2 := up0 hb10 (by omega) f9_b2_2
  have f10_b3_0 := up0 hb10 (by omega) f9_b3_0
  have f10_b3_1 := up0 hb10 (by omega) f9_b3_1
  have f10_b4_0 := up0 hb10 (by omega) f9_b4_0
  have f10_b4_1 := up0 hb10 (by omega) f9_b4_1
  have f10_b5_0 := up0 hb10 (by omega) f9_b5_0
  have f10_b5_1 := up0 hb10 (by omega) f9_b5_1
  have f10_b6_0 := up0 hb10 (by omega) f9_b6_0
  have f10_b6_1 := up0 hb10 (by omega) f9_b6_1
  have f10_b6_2 := up0 hb10 (by omega) f9_b6_2
  have f10_b6_3 := up0 hb10 (by omega) f9_b6_3
  have f10_b7_0 := up0 hb10 (by omega) f9_b7_0
  have f10_b7_1 := up0 hb10 (by omega) f9_b7_1
  have f10_b8_0 := up0 hb10 (by omega) f9_b8_0
  have f10_b8_1 := up0 hb10 (by omega) f9_b8_1
  have f10_b9_0 := up0 hb10 (by omega) f9_b9_0
  have f10_b9_1 := up0 hb10 (by omega) f9_b9_1
  have f10_b10_0 := up0 hb10 (by omega) f9_b10_0
  have f10_b10_1 := up0 hb10 (by omega) f9_b10_1
  have hB10 : Below w.heap.size w w10 := (by (try show Below _ _ _); repeat (first | (with_reducible refine Below.setCell ?_ (by first | omega | (simp <;> omega)) _) | (with_reducible refine Below.alloc ?_ (by first | omega | (simp <;> omega)) _) | (with_reducible refine Below.drew ?_) | (with_reducible exact Below.refl _ _) | (with_reducible exact hB9) | (with_reducible refine below_call ?_ hb10 (by first | omega | (simp <;> omega))) | (with_reducible refine below_call ?_ (Drew.below hb10 _) (by first | omega | (simp <;> omega)))))
  clear hb10 hB9 f9_b0_0 f9_b0_1 f9_b1_0 f9_b1_1 f9_b2_0 f9_b2_1 f9_b2_2 f9_b3_0 f9_b3_1 f9_b4_0 f9_b4_1 f9_b5_0 f9_b5_1 f9_b6_0 f9_b6_1 f9_b6_2 f9_b6_3 f9_b7_0 f9_b7_1 f9_b8_0 f9_b8_1 f9_b9_0 f9_b9_1 f9_b10_0 f9_b10_1
  have l10_0 : w.heap.size < w10.heap.size := by omega
  have l10_1 : w.heap.size + 1 < w10.heap.size := by omega
  have l10_2 : w.heap.size + 1 + 1 < w10.heap.size := by omega
  have l10_3 : w.heap.size + 1 + 1 + 1 < w10.heap.size := by omega
  have l10_4 : w.heap.size + 1 + 1 + 1 + 1 < w10.heap.size := by omega
  have l10_5 : w2.heap.size < w10.heap.size := by omega
  have l10_6 : w2.heap.size + 1 < w10.heap.size := by omega
  have l10_7 : w3.heap.size < w10.heap.size := by omega
  have l10_8 : w4.heap.size < w10.heap.size := by omega
  have l10_9 : w5.heap.size < w10.heap.size := by omega
  have l10_10 : w6.heap.size < w10.heap.size := by omega
  clear l9_0 l9_1 l9_2 l9_3 l9_4 l9_5 l9_6 l9_7 l9_8 l9_9 l9_10
  go_wp2_with fail
  refine (j1 _).mono ?_
  rintro e w11 ⟨rfl, hb11⟩
  have hz11 := hb11.size
  (try simp only [World.size_alloc, World.size_setCell, World.size_drew] at hz11)
  have f11_b0_0 := up1 hb11 (by omega) f10_b0_0
  have f11_b0_1 := up1 hb11 (by omega) f10_b0_1
  have f11_b1_0 := up1 hb11 (by omega) f10_b1_0
  have f11_b1_1 := up1 hb11 (by omega) f10_b1_1
  have f11_b2_0 := up1 hb11 (by omega) f10_b2_0
  have f11_b2_1 := up1 hb11 (by omega) f10_b2_1
  have f11_b2_2 := up1 hb11 (by omega) f10_b2_2
  have f11_b3_0 := up1 hb11 (by omega) f10_b3_0
  have f11_b3_1 := up1 hb11 (by omega) f10_b3_1
  have f11_b4_0 := up1 hb11 (by omega) f10_b4_0
  have f11_b4_1 := up1 hb11 (by omega) f10_b4_1
  have f11_b5_0 := up1 hb11 (by omega) f10_b5_0
  have f11_b5_1 := up1 hb11 (by omega) f10_b5_1
  have f11_b6_0 := up1 hb11 (by omega) f10_b6_0
  have f11_b6_1 := up1 hb11 (by omega) f10_b6_1
  have f11_b6_2 := up1 hb11 (by omega) f10_b6_2
  have f11_b6_3 := up1 hb11 (by omega) f10_b6_3
  have f11_b7_0 := up1 hb11 (by omega) f10_b7_0
  have f11_b7_1 := up1 hb11 (by omega) f10_b7_1
  have f11_b8_0 := up1 hb11 (by omega) f10_b8_0
  have f11_b8_1 := up1 hb11 (by omega) f10_b8_1
  have f11_b9_0 := up1 hb11 (by omega) f10_b9_0
  have f11_b9_1 := up1 hb11 (by omega) f10_b9_1
  have f11_b10_0 := up1 hb11 (by omega) f10_b10_0
  have f11_b10_1 := up1 hb11 (by omega) f10_b10_1
  have f11_b11_0 : w11.cell? ⟨w10.heap.size, 0, none⟩ = some (.int .i64 q0) := (hb11.cell (p := ⟨w10.heap.size, 0, none⟩) (by show w10.heap.size < _; first | omega | (simp only [World.size_alloc, World.size_setCell, World.size_drew]; omega))).trans (by simp [go_sem, cell_set])
  have f11_b11_1 : w11.cell? ⟨w10.heap.size, 1, none⟩ = some (.int .i64 q1) := (hb11.cell (p := ⟨w10.heap.size, 1, none⟩) (by show w10.heap.size < _; first | omega | (simp only [World.size_alloc, World.size_setCell, World.size_drew]; omega))).trans (by simp [go_sem, cell_set])
  have hB11 : Below w.heap.size w w11 := (by (try show Below _ _ _); repeat (first | (with_reducible refine Below.setCell ?_ (by first | omega | (simp <;> omega)) _) | (with_reducible refine Below.alloc ?_ (by first | omega | (simp <;> omega)) _) | (with_reducible refine Below.drew ?_) | (with_reducible exact Below.refl _ _) | (with_reducible exact hB10) | (with_reducible refine below_call ?_ hb11 (by first | omega | (simp <;> omega))) | (with_reducible refine below_call ?_ (Drew.below hb11 _) (by first | omega | (simp <;> omega)))))
  clear hb11 hB10 f10_b0_0 f10_b0_1 f10_b1_0 f10_b1_1 f10_b2_0 f10_b2_1 f10_b2_2 f10_b3_0 f10_b3_1 f10_b4_0 f10_b4_1 f10_b5_0 f10_b5_1 f10_b6_0 f10_b6_1 f10_b6_2 f10_b6_3 f10_b7_0 f10_b7_1 f10_b8_0 f10_b8_1 f10_b9_0 f10_b9_1 f10_b10_0 f10_b10_1
  have l11_0 : w.heap.size < w11.heap.size := by omega
  have l11_1 : w.heap.size + 1 < w11.heap.size := by omega
  have l11_2 : w.heap.size + 1 + 1 < w11.heap.size := by omega
  have l11_3 : w.heap.size + 1 + 1 + 1 < w11.heap.size := by omega
  have l11_4 : w.heap.size + 1 + 1 + 1 + 1 < w11.heap.size := by omega
  have l11_5 : w2.heap.size < w11.heap.size := by omega
  have l11_6 : w2.heap.size + 1 < w11.heap.size := by omega
  have l11_7 : w3.heap.size < w11.heap.size := by omega
  have l11_8 : w4.heap.size < w11.heap.size := by omega
  have l11_9 : w5.heap.size < w11.heap.size := by omega
  have l11_10 : w6.heap.size < w11.heap.size := by omega
  have l11_11 : w10.heap.size < w11.heap.size := by omega
  clear l10_0 l10_1 l10_2 l10_3 l10_4 l10_5 l10_6 l10_7 l10_8 l10_9 l10_10
  go_wp2_with fail
  go_quiet (fail)
  generalize hq12 : World.drewN w11 _ = w12
  have hb12 := drawnB hq12
  clear hq12
  have hz12 := hb12.size
  (try simp only [World.size_alloc, World.size_setCell, World.size_drew] at hz12)
  have f12_b0_0 := up0 hb12 (by omega) f11_b0_0
  have f12_b0_1 := up0 hb12 (by omega) f11_b0_1
  have f12_b1_0 := up0 hb12 (by omega) f11_b1_0
  have f12_b1_1 := up0 hb12 (by omega) f11_b1_1
  have f12_b2_0 := up0 hb12 (by omega) f11_b2_0
  have f12_b2_1 := up0 hb12 (by omega) f11_b2_1
  have f12_b2_2 := up0 hb12 (by omega) f11_b2_2
  have f12_b3_0 := up0 hb12 (by omega) f11_b3_0
  have f12_b3_1 := up0 hb12 (by omega) f11_b3_1
  have f12_b4_0 := up0 hb12 (by omega) f11_b4_0
  have f12_b4_1 := up0 hb12 (by omega) f11_b4_1
  have f12_b5_0 := up0 hb12 (by omega) f11_b5_0
  have f12_b5_1 := up0 hb12 (by omega) f11_b5_1
  have f12_b6_0 := up0 hb12 (by omega) f11_b6_0
  have f12_b6_1 := up0 hb12 (by omega) f11_b6_1
  have f12_b6_2 := up0 hb12 (by omega) f11_b6_2
  have f12_b6_3 := up0 hb12 (by omega) f11_b6_3
  have f12_b7_0 := up0 hb12 (by omega) f11_b7_0
  have f12_b7_1 := up0 hb12 (by omega) f11_b7_1
  have f12_b8_0 := up0 hb12 (by omega) f11_b8_0
  have f12_b8_1 := up0 hb12 (by omega) f11_b8_1
  have f12_b9_0 := up0 hb12 (by omega) f11_b9_0
  have f12_b9_1 := up0 hb12 (by omega) f11_b9_1
  have f12_b10_0 := up0 hb12 (by omega) f11_b10_0
  have f12_b10_1 := up0 hb12 (by omega) f11_b10_1
  have f12_b11_0 := up0 hb12 (by omega) f11_b11_0
  have f12_b11_1 := up0 hb12 (by omega) f11_b11_1
  have hB12 : Below w.heap.size w w12 := (by (try show Below _ _ _); repeat (first | (with_reducible refine Below.setCell ?_ (by first | omega | (simp <;> omega)) _) | (with_reducible refine Below.alloc ?_ (by first | omega | (simp <;> omega)) _) | (with_reducible refine Below.drew ?_) | (with_reducible exact Below.refl _ _) | (with_reducible exact hB11) | (with_reducible refine below_call ?_ hb12 (by first | omega | (simp <;> omega))) | (with_reducible refine below_call ?_ (Drew.below hb12 _) (by first | omega | (simp <;> omega)))))
  clear hb12 hB11 f11_b0_0 f11_b0_1 f11_b1_0 f11_b1_1 f11_b2_0 f11_b2_1 f11_b2_2 f11_b3_0 f11_b3_1 f11_b4_0 f11_b4_1 f11_b5_0 f11_b5_1 f11_b6_0 f11_b6_1 f11_b6_2 f11_b6_3 f11_b7_0 f11_b7_1 f11_b8_0 f11_b8_1 f11_b9_0 f11_b9_1 f11_b10_0 f11_b10_1 f11_b11_0 f11_b11_1
  have l12_0 : w.heap.size < w12.heap.size := by omega
  have l12_1 : w.heap.size + 1 < w12.heap.size := by omega
  have l12_2 : w.heap.size + 1 + 1 < w12.heap.size := by omega
  have l12_3 : w.heap.size + 1 + 1 + 1 < w12.heap.size := by omega
  have l12_4 : w.heap.size + 1 + 1 + 1 + 1 < w12.heap.size := by omega
  have l12_5 : w2.heap.size < w12.heap.size := by omega
  have l12_6 : w2.heap.size + 1 < w12.heap.size := by omega
  have l12_7 : w3.heap.size < w12.heap.size := by omega
  have l12_8 : w4.heap.size < w12.heap.size := by omega
  have l12_9 : w5.heap.size < w12.heap.size := by omega
  have l12_10 : w6.heap.size < w12.heap.size := by omega
  have l12_11 : w10.heap.size < w12.heap.size := by omega
  clear l11_0 l11_1 l11_2 l11_3 l11_4 l11_5 l11_6 l11_7 l11_8 l11_9 l11_10 l11_11
  go_wp2_with fail
  refine (j2 _).mono ?_
  rintro e w13 ⟨rfl, hb13⟩
  have hz13 := hb13.size
  (try simp only [World.size_alloc, World.size_setCell, World.size_drew] at hz13)
  have f13_b0_0 := up0 hb13 (by omega) f12_b0_0
  have f13_b0_1 := up0 hb13 (by omega) f12_b0_1
  have f13_b1_0 := up0 hb13 (by omega) f12_b1_0
  have f13_b1_1 := up0 hb13 (by omega) f12_b1_1
  have f13_b2_0 := up0 hb13 (by omega) f12_b2_0
  have f13_b2_1 := up0 hb13 (by omega) f12_b2_1
  have f13_b2_2 := up0 hb13 (by omega) f12_b2_2
  have f13_b3_0 := up0 hb13 (by omega) f12_b3_0
  have f13_b3_1 := up0 hb13 (by omega) f12_b3_1
  have f13_b4_0 := up0 hb13 (by omega) f12_b4_0
  have f13_b4_1 := up0 hb13 (by omega) f12_b4_1
  have f13_b5_0 := up0 hb13 (by omega) f12_b5_0
  have f13_b5_1 := up0 hb13 (by omega) f12_b5_1
  have f13_b6_0 := up0 hb13 (by omega) f12_b6_0
  have f13_b6_1 := up0 hb13 (by omega) f12_b6_1
  have f13_b6_2 := up0 hb13 (by omega) f12_b6_2
  have f13_b6_3 := up0 hb13 (by omega) f12_b6_3
  have f13_b7_0 := up0 hb13 (by omega) f12_b7_0
  have f13_b7_1 := up0 hb13 (by omega) f12_b7_1
  have f13_b8_0 := up0 hb13 (by omega) f12_b8_0
  have f13_b8_1 := up0 hb13 (by omega) f12_b8_1
  have f13_b9_0 := up0 hb13 (by omega) f12_b9_0
  have f13_b9_1 := up0 hb13 (by omega) f12_b9_1
  have f13_b10_0 := up0 hb13 (by omega) f12_b10_0
  have f13_b10_1 := up0 hb13 (by omega) f12_b10_1
  have f13_b11_0 := up0 hb13 (by omega) f12_b11_0
  have f13_b11_1 := up0 hb13 (by omega) f12_b11_1
  have hB13 : Below w.heap.size w w13 := (by (try show Below _ _ _); repeat (first | (with_reducible refine Below.setCell ?_ (by first | omega | (simp <;> omega)) _) | (with_reducible refine Below.alloc ?_ (by first | omega | (simp <;> omega)) _) | (with_reducible refine Below.drew ?_) | (with_reducible exact Below.refl _ _) | (with_reducible exact hB12) | (with_reducible refine below_call ?_ hb13 (by first | omega | (simp <;> omega))) | (with_reducible refine below_call ?_ (Drew.below hb13 _) (by first | omega | (simp <;> omega)))))
  clear hb13 hB12 f12_b0_0 f12_b0_1 f12_b1_0 f12_b1_1 f12_b2_0 f12_b2_1 f12_b2_2 f12_b3_0 f12_b3_1 f12_b4_0 f12_b4_1 f12_b5_0 f12_b5_1 f12_b6_0 f12_b6_1 f12_b6_2 f12_b6_3 f12_b7_0 f12_b7_1 f12_b8_0 f12_b8_1 f12_b9_0 f12_b9_1 f12_b10_0 f12_b10_1 f12_b11_0 f12_b11_1
  have l13_0 : w.heap.size < w13.heap.size := by omega
  have l13_1 : w.heap.size + 1 < w13.heap.size := by omega
  have l13_2 : w.heap.size + 1 + 1 < w13.heap.size := by omega
  have l13_3 : w.heap.size + 1 + 1 + 1 < w13.heap.size := by omega
  have l13_4 : w.heap.size + 1 + 1 + 1 + 1 < w13.heap.size := by omega
  have l13_5 : w2.heap.size < w13.heap.size := by omega
  have l13_6 : w2.heap.size + 1 < w13.heap.size := by omega
  have l13_7 : w3.heap.size < w13.heap.size := by omega
  have l13_8 : w4.heap.size < w13.heap.size := by omega
  have l13_9 : w5.heap.size < w13.heap.size := by omega
  have l13_10 : w6.heap.size < w13.heap.size := by omega
  have l13_11 : w10.heap.size < w13.heap.size := by omega
  clear l12_0 l12_1 l12_2 l12_3 l12_4 l12_5 l12_6 l12_7 l12_8 l12_9 l12_10 l12_11
  go_wp2_with fail
  refine (j3 _).mono ?_
  rintro e w14 ⟨rfl, hb14⟩
  have hz14 := hb14.size
  (try simp only [World.size_alloc, World.size_setCell, World.size_drew] at hz14)
  have f14_b0_0 := up0 hb14 (by omega) f13_b0_0
  have f14_b0_1 := up0 hb14 (by omega) f13_b0_1
  have f14_b1_0 := up0 hb14 (by omega) f13_b1_0
  have f14_b1_1 := up0 hb14 (by omega) f13_b1_1
  have f14_b2_0 := up0 hb14 (by omega) f13_b2_0
  have f14_b2_1 := up0 hb14 (by omega) f13_b2_1
  have f14_b2_2 := up0 hb14 (by omega) f13_b2_2
  have f14_b3_0 := up0 hb14 (by omega) f13_b3_0
  have f14_b3_1 := up0 hb14 (by omega) f13_b3_1
  have f14_b4_0 := up0 hb14 (by omega) f13_b4_0
  have f14_b4_1 := up0 hb14 (by omega) f13_b4_1
  have f14_b5_0 := up0 hb14 (by omega) f13_b5_0
  have f14_b5_1 := up0 hb14 (by omega) f13_b5_1
  have f14_b6_0 := up0 hb14 (by omega) f13_b6_0
  have f14_b6_1 := up0 hb14 (by omega) f13_b6_1
  have f14_b6_2 := up0 hb14 (by omega) f13_b6_2
  have f14_b6_3 := up0 hb14 (by omega) f13_b6_3
  have f14_b7_0 := up0 hb14 (by omega) f13_b7_0
  have f14_b7_1 := up0 hb14 (by omega) f13_b7_1
  have f14_b8_0 := up0 hb14 (by omega) f13_b8_0
  have f14_b8_1 := up0 hb14 (by omega) f13_b8_1
  have f14_b9_0 := up0 hb14 (by omega) f13_b9_0
  have f14_b9_1 := up0 hb14 (by omega) f13_b9_1
  have f14_b10_0 := up0 hb14 (by omega) f13_b10_0
  have f14_b10_1 := up0 hb14 (by omega) f13_b10_1
  have f14_b11_0 := up0 hb14 (by omega) f13_b11_0
  have f14_b11_1 := up0 hb14 (by omega) f13_b11_1
  have hB14 : Below w.heap.size w w14 := (by (try show Below _ _ _); repeat (first | (with_reducible refine Below.setCell ?_ (by first | omega | (simp <;> omega)) _) | (with_reducible refine Below.alloc ?_ (by first | omega | (simp <;> omega)) _) | (with_reducible refine Below.drew ?_) | (with_reducible exact Below.refl _ _) | (with_reducible exact hB13) | (with_reducible refine below_call ?_ hb14 (by first | omega | (simp <;> omega))) | (with_reducible refine below_call ?_ (Drew.below hb14 _) (by first | omega | (simp <;> omega)))))
  clear hb14 hB13 f13_b0_0 f13_b0_1 f13_b1_0 f13_b1_1 f13_b2_0 f13_b2_1 f13_b2_2 f13_b3_0 f13_b3_1 f13_b4_0 f13_b4_1 f13_b5_0 f13_b5_1 f13_b6_0 f13_b6_1 f13_b6_2 f13_b6_3 f13_b7_0 f13_b7_1 f13_b8_0 f13_b8_1 f13_b9_0 f13_b9_1 f13_b10_0 f13_b10_1 f13_b11_0 f13_b11_1
  have l14_0 : w.heap.size < w14.heap.size := by omega
  have l14_1 : w.heap.size + 1 < w14.heap.size := by omega
  have l14_2 : w.heap.size + 1 + 1 < w14.heap.size := by omega
  have l14_3 : w.heap.size + 1 + 1 + 1 < w14.heap.size := by omega
  have l14_4 : w.heap.size + 1 + 1 + 1 + 1 < w14.heap.size := by omega
  have l14_5 : w2.heap.size < w14.heap.size := by omega
  have l14_6 : w2.heap.size + 1 < w14.heap.size := by omega
  have l14_7 : w3.heap.size < w14.heap.size := by omega
  have l14_8 : w4.heap.size < w14.heap.size := by omega
  have l14_9 : w5.heap.size < w14.heap.size := by omega
  have l14_10 : w6.heap.size < w14.heap.size := by omega
  have l14_11 : w10.heap.size < w14.heap.size := by omega
  clear l13_0 l13_1 l13_2 l13_3 l13_4 l13_5 l13_6 l13_7 l13_8 l13_9 l13_10 l13_11
  go_wp2_with fail
  refine (hS2 _ _ (Elems.of2 (by simp [go_sem]) (by simp [go_sem]) (by simp [go_sem]) (by simp [go_sem]) (by simp))).mono ?_
  rintro e w15 ⟨rfl, hb15⟩
  have hz15 := hb15.size
  (try simp only [World.size_alloc, World.size_setCell, World.size_drew] at hz15)
  have f15_b0_0 := up1 hb15 (by omega) f14_b0_0
  have f15_b0_1 := up1 hb15 (by omega) f14_b0_1
  have f15_b1_0 := up1 hb15 (by omega) f14_b1_0
  have f15_b1_1 := up1 hb15 (by omega) f14_b1_1
  have f15_b2_0 := up1 hb15 (by omega) f14_b2_0
  have f15_b2_1 := up1 hb15 (by omega) f14_b2_1
  have f15_b2_2 := up1 hb15 (by omega) f14_b2_2
  have f15_b3_0 := up1 hb15 (by omega) f14_b3_0
  have f15_b3_1 := up1 hb15 (by omega) f14_b3_1
  have f15_b4_0 := up1 hb15 (by omega) f14_b4_0
  have f15_b4_1 := up1 hb15 (by omega) f14_b4_1
  have f15_b5_0 := up1 hb15 (by omega) f14_b5_0
  have f15_b5_1 := up1 hb15 (by omega) f14_b5_1
  have f15_b6_0 := up1 hb15 (by omega) f14_b6_0
  have f15_b6_1 := up1 hb15 (by omega) f14_b6_1
  have f15_b6_2 := up1 hb15 (by omega) f14_b6_2
  have f15_b6_3 := up1 hb15 (by omega) f14_b6_3
  have f15_b7_0 := up1 hb15 (by omega) f14_b7_0
  have f15_b7_1 := up1 hb15 (by omega) f14_b7_1
  have f15_b8_0 := up1 hb15 (by omega) f14_b8_0
  have f15_b8_1 := up1 hb15 (by omega) f14_b8_1
  have f15_b9_0 := up1 hb15 (by omega) f14_b9_0
  have f15_b9_1 := up1 hb15 (by omega) f14_b9_1
  have f15_b10_0 := up1 hb15 (by omega) f14_b10_0
  have f15_b10_1 := up1 hb15 (by omega) f14_b10_1
  have f15_b11_0 := up1 hb15 (by omega) f14_b11_0
  have f15_b11_1 := up1 hb15 (by omega) f14_b11_1
  have f15_b12_0 : w15.cell? ⟨w14.heap.size, 0, none⟩ = some (.int .i64 m) := (hb15.cell (p := ⟨w14.heap.size, 0, none⟩) (by show w14.heap.size < _; first | omega | (simp only [World.size_alloc, World.size_setCell, World.size_drew]; omega))).trans (by simp [go_sem, cell_set])
  have f15_b12_1 : w15.cell? ⟨w14.heap.size, 1, none⟩ = some (.int .i64 x1) := (hb15.cell (p := ⟨w14.heap.size, 1, none⟩) (by show w14.heap.size < _; first | omega | (simp only [World.size_alloc, World.size_setCell, World.size_drew]; omega))).trans (by simp [go_sem, cell_set])
  have f15_b12_2 : w15.cell? ⟨w14.heap.size, 2, none⟩ = some (.int .i64 y0) := (hb15.cell (p := ⟨w14.heap.size, 2, none⟩) (by show w14.heap.size < _; first | omega | (simp only [World.size_alloc, World.size_setCell, World.size_drew]; omega))).trans (by simp [go_sem, cell_set])
  have f15_b12_3 : w15.cell? ⟨w14.heap.size, 3, none⟩ = some (.int .i64 y1) := (hb15.cell (p := ⟨w14.heap.size, 3, none⟩) (by show w14.heap.size < _; first | omega | (simp only [World.size_alloc, World.size_setCell, World.size_drew]; omega))).trans (by simp [go_sem, cell_set])
  have hB15 : Below w.heap.size w w15 := (by (try show Below _ _ _); repeat (first | (with_reducible refine Below.setCell ?_ (by first | omega | (simp <;> omega)) _) | (with_reducible refine Below.alloc ?_ (by first | omega | (simp <;> omega)) _) | (with_reducible refine Below.drew ?_) | (with_reducible exact Below.refl _ _) | (with_reducible exact hB14) | (with_reducible refine below_call ?_ hb15 (by first | omega | (simp <;> omega))) | (with_reducible refine below_call ?_ (Drew.below hb15 _) (by first | omega | (simp <;> omega)))))
  clear hb15 hB14 f14_b0_0 f14_b0_1 f14_b1_0 f14_b1_1 f14_b2_0 f14_b2_1 f14_b2_2 f14_b3_0 f14_b3_1 f14_b4_0 f14_b4_1 f14_b5_0 f14_b5_1 f14_b6_0 f14_b6_1 f14_b6_2 f14_b6_3 f14_b7_0 f14_b7_1 f14_b8_0 f14_b8_1 f14_b9_0 f14_b9_1 f14_b10_0 f14_b10_1 f14_b11_0 f14_b11_1
  have l15_0 : w.heap.size < w15.heap.size := by omega
  have l15_1 : w.heap.size + 1 < w15.heap.size := by omega
  have l15_2 : w.heap.size + 1 + 1 < w15.heap.size := by omega
  have l15_3 : w.heap.size + 1 + 1 + 1 < w15.heap.size := by omega
  have l15_4 : w.heap.size + 1 + 1 + 1 + 1 < w15.heap.size := by omega
  have l15_5 : w2.heap.size < w15.heap.size := by omega
  have l15_6 : w2.heap.size + 1 < w15.heap.size := by omega
  have l15_7 : w3.heap.size < w15.heap.size := by omega
  have l15_8 : w4.heap.size < w15.heap.size := by omega
  have l15_9 : w5.heap.size < w15.heap.size := by omega
  have l15_10 : w6.heap.size < w15.heap.size := by omega
  have l15_11 : w10.heap.size < w15.heap.size := by omega
  have l15_12 : w14.heap.size < w15.heap.size := by omega
  clear l14_0 l14_1 l14_2 l14_3 l14_4 l14_5 l14_6 l14_7 l14_8 l14_9 l14_10 l14_11
  go_wp2_with fail
  refine (hL2 _).mono ?_
  rintro e w16 ⟨rfl, hb16⟩
  have hz16 := hb16.size
  (try simp only [World.size_alloc, World.size_setCell, World.size_drew] at hz16)
  have f16_b0_0 := up1 hb16 (by omega) f15_b0_0
  have f16_b0_1 := up1 hb16 (by omega) f15_b0_1
  have f16_b1_0 := up1 hb16 (by omega) f15_b1_0
  have f16_b1_1 := up1 hb16 (by omega) f15_b1_1
  have f16_b2_0 := up1 hb16 (by omega) f15_b2_0
  have f16_b2_1 := up1 hb16 (by omega) f15_b2_1
  have f16_b2_2 := up1 hb16 (by omega) f15_b2_2
  have f16_b3_0 := up1 hb16 (by omega) f15_b3_0
  have f16_b3_1 := up1 hb16 (by omega) f15_b3_1
  have f16_b4_0 := up1 hb16 (by omega) f15_b4_0
  have f16_b4_1 := up1 hb16 (by omega) f15_b4_1
  have f16_b5_0 := up1 hb16 (by omega) f15_b5_0
  have f16_b5_1 := up1 hb16 (by omega) f15_b5_1
  have f16_b6_0 := up1 hb16 (by omega) f15_b6_0
  have f16_b6_1 := up1 hb16 (by omega) f15_b6_1
  have f16_b6_2 := up1 hb16 (by omega) f15_b6_2
  have f16_b6_3 := up1 hb16 (by omega) f15_b6_3
  have f16_b7_0 := up1 hb16 (by omega) f15_b7_0
  have f16_b7_1 := up1 hb16 (by omega) f15_b7_1
  have f16_b8_0 := up1 hb16 (by omega) f15_b8_0
  have f16_b8_1 := up1 hb16 (by omega) f15_b8_1
  have f16_b9_0 := up1 hb16 (by omega) f15_b9_0
  have f16_b9_1 := up1 hb16 (by omega) f15_b9_1
  have f16_b10_0 := up1 hb16 (by omega) f15_b10_0
  have f16_b10_1 := up1 hb16 (by omega) f15_b10_1
  have f16_b11_0 := up1 hb16 (by omega) f15_b11_0
  have f16_b11_1 := up1 hb16 (by omega) f15_b11_1
  have f16_b12_0 := up1 hb16 (by omega) f15_b12_0
  have f16_b12_1 := up1 hb16 (by omega) f15_b12_1
  have f16_b12_2 := up1 hb16 (by omega) f15_b12_2
  have f16_b12_3 := up1 hb16 (by omega) f15_b12_3
  have f16_b13_0 : w16.cell? ⟨w15.heap.size, 0, none⟩ = some (.int .i64 ((m + y0))) := (hb16.cell (p := ⟨w15.heap.size, 0, none⟩) (by show w15.heap.size < _; first | omega | (simp only [World.size_alloc, World.size_setCell, World.size_drew]; omega))).trans (by simp [go_sem, cell_set])
  have f16_b13_1 : w16.cell? ⟨w15.heap.size, 1, none⟩ = some (.int .i64 ((x1 + y1))) := (hb16.cell (p := ⟨w15.heap.size, 1, none⟩) (by show w15.heap.size < _; first | omega | (simp only [World.size_alloc, World.size_setCell, World.size_drew]; omega))).trans (by simp [go_sem, cell_set])
  have hB16 : Below w.heap.size w w16 := (by (try show Below _ _ _); repeat (first | (with_reducible refine Below.setCell ?_ (by first | omega | (simp <;> omega)) _) | (with_reducible refine Below.alloc ?_ (by first | omega | (simp <;> omega)) _) | (with_reducible refine Below.drew ?_) | (with_reducible exact Below.refl _ _) | (with_reducible exact hB15) | (with_reducible refine below_call ?_ hb16 (by first | omega | (simp <;> omega))) | (with_reducible refine below_call ?_ (Drew.below hb16 _) (by first | omega | (simp <;> omega)))))
  clear hb16 hB15 f15_b0_0 f15_b0_1 f15_b1_0 f15_b1_1 f15_b2_0 f15_b2_1 f15_b2_2 f15_b3_0 f15_b3_1 f15_b4_0 f15_b4_1 f15_b5_0 f15_b5_1 f15_b6_0 f15_b6_1 f15_b6_2 f15_b6_3 f15_b7_0 f15_b7_1 f15_b8_0 f15_b8_1 f15_b9_0 f15_b9_1 f15_b10_0 f15_b10_1 f15_b11_0 f15_b11_1 f15_b12_0 f15_b12_1 f15_b12_2 f15_b12_3
  have l16_0 : w.heap.size < w16.heap.size := by omega
  have l16_1 : w.heap.size + 1 < w16.heap.size := by omega
  have l16_2 : w.heap.size + 1 + 1 < w16.heap.size := by omega
  have l16_3 : w.heap.size + 1 + 1 + 1 < w16.heap.size := by omega
  have l16_4 : w.heap.size + 1 + 1 + 1 + 1 < w16.heap.size := by omega
  have l16_5 : w2.heap.size < w16.heap.size := by omega
  have l16_6 : w2.heap.size + 1 < w16.heap.size := by omega
  have l16_7 : w3.heap.size < w16.heap.size := by omega
  have l16_8 : w4.heap.size < w16.heap.size := by omega
  have l16_9 : w5.heap.size < w16.heap.size := by omega
  have l16_10 : w6.heap.size < w16.heap.size := by omega
  have l16_11 : w10.heap.size < w16.heap.size := by omega
  have l16_12 : w14.heap.size < w16.heap.size := by omega
  have l16_13 : w15.heap.size < w16.heap.size := by omega
  clear l15_0 l15_1 l15_2 l15_3 l15_4 l15_5 l15_6 l15_7 l15_8 l15_9 l15_10 l15_11 l15_12
  go_wp2_with fail
  refine (hT2 _).mono ?_
  rintro e w17 ⟨rfl, hb17⟩
  have hz17 := hb17.size
  (try simp only [World.size_alloc, World.size_setCell, World.size_drew] at hz17)
  have f17_b0_0 := up1 hb17 (by omega) f16_b0_0
  have f17_b0_1 := up1 hb17 (by omega) f16_b0_1
  have f17_b1_0 := up1 hb17 (by omega) f16_b1_0
  have f17_b1_1 := up1 hb17 (by omega) f16_b1_1
  have f17_b2_0 := up1 hb17 (by omega) f16_b2_0
  have f17_b2_1 := up1 hb17 (by omega) f16_b2_1
  have f17_b2_2 := up1 hb17 (by omega) f16_b2_2
  have f17_b3_0 := up1 hb17 (by omega) f16_b3_0
  have f17_b3_1 := up1 hb17 (by omega) f16_b3_1
  have f17_b4_0 := up1 hb17 (by omega) f16_b4_0
  have f17_b4_1 := up1 hb17 (by omega) f16_b4_1
  have f17_b5_0 := up1 hb17 (by omega) f16_b5_0
  have f17_b5_1 := up1 hb17 (by omega) f16_b5_1
  have f17_b6_0 := up1 hb17 (by omega) f16_b6_0
  have f17_b6_1 := up1 hb17 (by omega) f16_b6_1
  have f17_b6_2 := up1 hb17 (by omega) f16_b6_2
  have f17_b6_3 := up1 hb17 (by omega) f16_b6_3
  have f17_b7_0 := up1 hb17 (by omega) f16_b7_0
  have f17_b7_1 := up1 hb17 (by omega) f16_b7_1
  have f17_b8_0 := up1 hb17 (by omega) f16_b8_0
  have f17_b8_1 := up1 hb17 (by omega) f16_b8_1
  have f17_b9_0 := up1 hb17 (by omega) f16_b9_0
  have f17_b9_1 := up1 hb17 (by omega) f16_b9_1
  have f17_b10_0 := up1 hb17 (by omega) f16_b10_0
  have f17_b10_1 := up1 hb17 (by omega) f16_b10_1
  have f17_b11_0 := up1 hb17 (by omega) f16_b11_0
  have f17_b11_1 := up1 hb17 (by omega) f16_b11_1
  have f17_b12_0 := up1 hb17 (by omega) f16_b12_0
  have f17_b12_1 := up1 hb17 (by omega) f16_b12_1
  have f17_b12_2 := up1 hb17 (by omega) f16_b12_2
  have f17_b12_3 := up1 hb17 (by omega) f16_b12_3
  have f17_b13_0 := up1 hb17 (by omega) f16_b13_0
  have f17_b13_1 := up1 hb17 (by omega) f16_b13_1
  have f17_b14_0 : w17.cell? ⟨w16.heap.size, 0, none⟩ = some (.int .i64 ((m - y1))) := (hb17.cell (p := ⟨w16.heap.size, 0, none⟩) (by show w16.heap.size < _; first | omega | (simp only [World.size_alloc, World.size_setCell, World.size_drew]; omega))).trans (by simp [go_sem, cell_set])
  have f17_b14_1 : w17.cell? ⟨w16.heap.size, 1, none⟩ = some (.int .i64 ((x1 - y0))) := (hb17.cell (p := ⟨w16.heap.size, 1, none⟩) (by show w16.heap.size < _; first | omega | (simp only [World.size_alloc, World.size_setCell, World.size_drew]; omega))).trans (by simp [go_sem, cell_set])
  have hB17 : Below w.heap.size w w17 := (by (try show Below _ _ _); repeat (first | (with_reducible refine Below.setCell ?_ (by first | omega | (simp <;> omega)) _) | (with_reducible refine Below.alloc ?_ (by first | omega | (simp <;> omega)) _) | (with_reducible refine Below.drew ?_) | (with_reducible exact Below.refl _ _) | (with_reducible exact hB16) | (with_reducible refine below_call ?_ hb17 (by first | omega | (simp <;> omega))) | (with_reducible refine below_call ?_ (Drew.below hb17 _) (by first | omega | (simp <;> omega)))))
  clear hb17 hB16 f16_b0_0 f16_b0_1 f16_b1_0 f16_b1_1 f16_b2_0 f16_b2_1 f16_b2_2 f16_b3_0 f16_b3_1 f16_b4_0 f16_b4_1 f16_b5_0 f16_b5_1 f16_b6_0 f16_b6_1 f16_b6_2 f16_b6_3 f16_b7_0 f16_b7_1 f16_b8_0 f16_b8_1 f16_b9_0 f16_b9_1 f16_b10_0 f16_b10_1 f16_b11_0 f16_b11_1 f16_b12_0 f16_b12_1 f16_b12_2 f16_b12_3 f16_b13_0 f16_b13_1
  have l17_0 : w.heap.size < w17.heap.size := by omega
  have l17_1 : w.heap.size + 1 < w17.heap.size := by omega
  have l17_2 : w.heap.size + 1 + 1 < w17.heap.size := by omega
  have l17_3 : w.heap.size + 1 + 1 + 1 < w17.heap.size := by omega
  have l17_4 : w.heap.size + 1 + 1 + 1 + 1 < w17.heap.size := by omega
  have l17_5 : w2.heap.size < w17.heap.size := by omega
  have l17_6 : w2.heap.size + 1 < w17.heap.size := by omega
  have l17_7 : w3.heap.size < w17.heap.size := by omega
  have l17_8 : w4.heap.size < w17.heap.size := by omega
  have l17_9 : w5.heap.size < w17.heap.size := by omega
  have l17_10 : w6.heap.size < w17.heap.size := by omega
  have l17_11 : w10.heap.size < w17.heap.size := by omega
  have l17_12 : w14.heap.size < w17.heap.size := by omega
  have l17_13 : w15.heap.size < w17.heap.size := by omega
  have l17_14 : w16.heap.size < w17.heap.size := by omega
  clear l16_0 l16_1 l16_2 l16_3 l16_4 l16_5 l16_6 l16_7 l16_8 l16_9 l16_10 l16_11 l16_12 l16_13
  go_wp2_with fail
  refine (hC2 _).mono ?_
  rintro e w18 ⟨rfl, hb18⟩
  have hz18 := hb18.size
  (try simp only [World.size_alloc, World.size_setCell, World.size_drew] at hz18)
  have f18_b0_0 := up1 hb18 (by omega) f17_b0_0
  have f18_b0_1 := up1 hb18 (by omega) f17_b0_1
  have f18_b1_0 := up1 hb18 (by omega) f17_b1_0
  have f18_b1_1 := up1 hb18 (by omega) f17_b1_1
  have f18_b2_0 := up1 hb18 (by omega) f17_b2_0
  have f18_b2_1 := up1 hb18 (by omega) f17_b2_1
  have f18_b2_2 := up1 hb18 (by omega) f17_b2_2
  have f18_b3_0 := up1 hb18 (by omega) f17_b3_0
  have f18_b3_1 := up1 hb18 (by omega) f17_b3_1
  have f18_b4_0 := up1 hb18 (by omega) f17_b4_0
  have f18_b4_1 := up1 hb18 (by omega) f17_b4_1
  have f18_b5_0 := up1 hb18 (by omega) f17_b5_0
  have f18_b5_1 := up1 hb18 (by omega) f17_b5_1
  have f18_b6_0 := up1 hb18 (by omega) f17_b6_0
  have f18_b6_1 := up1 hb18 (by omega) f17_b6_1
  have f18_b6_2 := up1 hb18 (by omega) f17_b6_2
  have f18_b6_3 := up1 hb18 (by omega) f17_b6_3
  have f18_b7_0 := up1 hb18 (by omega) f17_b7_0
  have f18_b7_1 := up1 hb18 (by omega) f17_b7_1
  have f18_b8_0 := up1 hb18 (by omega) f17_b8_0
  have f18_b8_1 := up1 hb18 (by omega) f17_b8_1
  have f18_b9_0 := up1 hb18 (by omega) f17_b9_0
  have f18_b9_1 := up1 hb18 (by omega) f17_b9_1
  have f18_b10_0 := up1 hb18 (by omega) f17_b10_0
  have f18_b10_1 := up1 hb18 (by omega) f17_b10_1
  have f18_b11_0 := up1 hb18 (by omega) f17_b11_0
  have f18_b11_1 := up1 hb18 (by omega) f17_b11_1
  have f18_b12_0 := up1 hb18 (by omega) f17_b12_0
  have f18_b12_1 := up1 hb18 (by omega) f17_b12_1
  have f18_b12_2 := up1 hb18 (by omega) f17_b12_2
  have f18_b12_3 := up1 hb18 (by omega) f17_b12_3
  have f18_b13_0 := up1 hb18 (by omega) f17_b13_0
  have f18_b13_1 := up1 hb18 (by omega) f17_b13_1
  have f18_b14_0 := up1 hb18 (by omega) f17_b14_0
  have f18_b14_1 := up1 hb18 (by omega) f17_b14_1
  have f18_b15_0 : w18.cell? ⟨w17.heap.size, 0, none⟩ = some (.int .i64 P2) := (hb18.cell (p := ⟨w17.heap.size, 0, none⟩) (by show w17.heap.size < _; first | omega | (simp only [World.size_alloc, World.size_setCell, World.size_drew]; omega))).trans (by simp [go_sem, cell_set])
  have f18_b15_1 : w18.cell? ⟨w17.heap.size, 1, none⟩ = some (.int .i64 P3) := (hb18.cell (p := ⟨w17.heap.size, 1, none⟩) (by show w17.heap.size < _; first | omega | (simp only [World.size_alloc, World.size_setCell, World.size_drew]; omega))).trans (by simp [go_sem, cell_set])
  have hB18 : Below w.heap.size w w18 := (by (try show Below _ _ _); repeat (first | (with_reducible refine Below.setCell ?_ (by first | omega | (simp <;> omega)) _) | (with_reducible refine Below.alloc ?_ (by first | omega | (simp <;> omega)) _) | (with_reducible refine Below.drew ?_) | (with_reducible exact Below.refl _ _) | (with_reducible exact hB17) | (with_reducible refine below_call ?_ hb18 (by first | omega | (simp <;> omega))) | (with_reducible refine below_call ?_ (Drew.below hb18 _) (by first | omega | (simp <;> omega)))))
  clear hb18 hB17 f17_b0_0 f17_b0_1 f17_b1_0 f17_b1_1 f17_b2_0 f17_b2_1 f17_b2_2 f17_b3_0 f17_b3_1 f17_b4_0 f17_b4_1 f17_b5_0 f17_b5_1 f17_b6_0 f17_b6_1 f17_b6_2 f17_b6_3 f17_b7_0 f17_b7_1 f17_b8_0 f17_b8_1 f17_b9_0 f17_b9_1 f17_b10_0 f17_b10_1 f17_b11_0 f17_b11_1 f17_b12_0 f17_b12_1 f17_b12_2 f17_b12_3 f17_b13_0 f17_b13_1 f17_b14_0 f17_b14_1
  have l18_0 : w.heap.size < w18.heap.size := by omega
  have l18_1 : w.heap.size + 1 < w18.heap.size := by omega
  have l18_2 : w.heap.size + 1 + 1 < w18.heap.size := by omega
  have l18_3 : w.heap.size + 1 + 1 + 1 < w18.heap.size := by omega
  have l18_4 : w.heap.size + 1 + 1 + 1 + 1 < w18.heap.size := by omega
  have l18_5 : w2.heap.size < w18.heap.size := by omega
  have l18_6 : w2.heap.size + 1 < w18.heap.size := by omega
  have l18_7 : w3.heap.size < w18.heap.size := by omega
  have l18_8 : w4.heap.size < w18.heap.size := by omega
  have l18_9 : w5.heap.size < w18.heap.size := by omega
  have l18_10 : w6.heap.size < w18.heap.size := by omega
  have l18_11 : w10.heap.size < w18.heap.size := by omega
  have l18_12 : w14.heap.size < w18.heap.size := by omega
  have l18_13 : w15.heap.size < w18.heap.size := by omega
  have l18_14 : w16.heap.size < w18.heap.size := by omega
  have l18_15 : w17.heap.size < w18.heap.size := by omega
  clear l17_0 l17_1 l17_2 l17_3 l17_4 l17_5 l17_6 l17_7 l17_8 l17_9 l17_10 l17_11 l17_12 l17_13 l17_14
  go_wp2_with fail
  refine (i4 _).mono ?_
  rintro e w19 ⟨rfl, hb19⟩
  have hz19 := hb19.size
  (try simp only [World.size_alloc, World.size_setCell, World.size_drew] at hz19)
  have f19_b0_0 := up1 hb19 (by omega) f18_b0_0
  have f19_b0_1 := up1 hb19 (by omega) f18_b0_1
  have f19_b1_0 := up1 hb19 (by omega) f18_b1_0
  have f19_b1_1 := up1 hb19 (by omega) f18_b1_1
  have f19_b2_0 := up1 hb19 (by omega) f18_b2_0
  have f19_b2_1 := up1 hb19 (by omega) f18_b2_1
  have f19_b2_2 := up1 hb19 (by omega) f18_b2_2
  have f19_b3_0 := up1 hb19 (by omega) f18_b3_0
  have f19_b3_1 := up1 hb19 (by omega) f18_b3_1
  have f19_b4_0 := up1 hb19 (by omega) f18_b4_0
  have f19_b4_1 := up1 hb19 (by omega) f18_b4_1
  have f19_b5_0 := up1 hb19 (by omega) f18_b5_0
  have f19_b5_1 := up1 hb19 (by omega) f18_b5_1
  have f19_b6_0 := up1 hb19 (by omega) f18_b6_0
  have f19_b6_1 := up1 hb19 (by omega) f18_b6_1
  have f19_b6_2 := up1 hb19 (by omega) f18_b6_2
  have f19_b6_3 := up1 hb19 (by omega) f18_b6_3
  have f19_b7_0 := up1 hb19 (by omega) f18_b7_0
  have f19_b7_1 := up1 hb19 (by omega) f18_b7_1
  have f19_b8_0 := up1 hb19 (by omega) f18_b8_0
  have f19_b8_1 := up1 hb19 (by omega) f18_b8_1
  have f19_b9_0 := up1 hb19 (by omega) f18_b9_0
  have f19_b9_1 := up1 hb19 (by omega) f18_b9_1
  have f19_b10_0 := up1 hb19 (by omega) f18_b10_0
  have f19_b10_1 := up1 hb19 (by omega) f18_b10_1
  have f19_b11_0 := up1 hb19 (by omega) f18_b11_0
  have f19_b11_1 := up1 hb19 (by omega) f18_b11_1
  have f19_b12_0 := up1 hb19 (by omega) f18_b12_0
  have f19_b12_1 := up1 hb19 (by omega) f18_b12_1
  have f19_b12_2 := up1 hb19 (by omega) f18_b12_2
  have f19_b12_3 := up1 hb19 (by omega) f18_b12_3
  have f19_b13_0 := up1 hb19 (by omega) f18_b13_0
  have f19_b13_1 := up1 hb19 (by omega) f18_b13_1
  have f19_b14_0 := up1 hb19 (by omega) f18_b14_0
  have f19_b14_1 := up1 hb19 (by omega) f18_b14_1
  have f19_b15_0 := up1 hb19 (by omega) f18_b15_0
  have f19_b15_1 := up1 hb19 (by omega) f18_b15_1
  have f19_b16_0 : w19.cell? ⟨w18.heap.size, 0, none⟩ = some (.int .i64 k2) := (hb19.cell (p := ⟨w18.heap.size, 0, none⟩) (by show w18.heap.size < _; first | omega | (simp only [World.size_alloc, World.size_setCell, World.size_drew]; omega))).trans (by simp [go_sem, cell_set])
  have f19_b16_1 : w19.cell? ⟨w18.heap.size, 1, none⟩ = some (.int .i64 k3) := (hb19.cell (p := ⟨w18.heap.size, 1, none⟩) (by show w18.heap.size < _; first | omega | (simp only [World.size_alloc, World.size_setCell, World.size_drew]; omega))).trans (by simp [go_sem, cell_set])
  have hB19 : Below w.heap.size w w19 := (by (try show Below _ _ _); repeat (first | (with_reducible refine Below.setCell ?_ (by first | omega | (simp <;> omega)) _) | (with_reducible refine Below.alloc ?_ (by first | omega | (simp <;> omega)) _) | (with_reducible refine Below.drew ?_) | (with_reducible exact Below.refl _ _) | (with_reducible exact hB18) | (with_reducible refine below_call ?_ hb19 (by first | omega | (simp <;> omega))) | (with_reducible refine below_call ?_ (Drew.below hb19 _) (by first | omega | (simp <;> omega)))))
  clear hb19 hB18 f18_b0_0 f18_b0_1 f18_b1_0 f18_b1_1 f18_b2_0 f18_b2_1 f18_b2_2 f18_b3_0 f18_b3_1 f18_b4_0 f18_b4_1 f18_b5_0 f18_b5_1 f18_b6_0 f18_b6_1 f18_b6_2 f18_b6_3 f18_b7_0 f18_b7_1 f18_b8_0 f18_b8_1 f18_b9_0 f18_b9_1 f18_b10_0 f18_b10_1 f18_b11_0 f18_b11_1 f18_b12_0 f18_b12_1 f18_b12_2 f18_b12_3 f18_b13_0 f18_b13_1 f18_b14_0 f18_b14_1 f18_b15_0 f18_b15_1
  have l19_0 : w.heap.size < w19.heap.size := by omega
  have l19_1 : w.heap.size + 1 < w19.heap.size := by omega
  have l19_2 : w.heap.size + 1 + 1 < w19.heap.size := by omega
  have l19_3 : w.heap.size + 1 + 1 + 1 < w19.heap.size := by omega
  have l19_4 : w.heap.size + 1 + 1 + 1 + 1 < w19.heap.size := by omega
  have l19_5 : w2.heap.size < w19.heap.size := by omega
  have l19_6 : w2.heap.size + 1 < w19.heap.size := by omega
  have l19_7 : w3.heap.size < w19.heap.size := by omega
  have l19_8 : w4.heap.size < w19.heap.size := by omega
  have l19_9 : w5.heap.size < w19.heap.size := by omega
  have l19_10 : w6.heap.size < w19.heap.size := by omega
  have l19_11 : w10.heap.size < w19.heap.size := by omega
  have l19_12 : w14.heap.size < w19.heap.size := by omega
  have l19_13 : w15.heap.size < w19.heap.size := by omega
  have l19_14 : w16.heap.size < w19.heap.size := by omega
  have l19_15 : w17.heap.size < w19.heap.size := by omega
  have l19_16 : w18.heap.size < w19.heap.size := by omega
  clear l18_0 l18_1 l18_2 l18_3 l18_4 l18_5 l18_6 l18_7 l18_8 l18_9 l18_10 l18_11 l18_12 l18_13 l18_14 l18_15
  go_wp2_with fail
  refine (i5 _).mono ?_
  rintro e w20 ⟨rfl, hb20⟩
  have hz20 := hb20.size
  (try simp only [World.size_alloc, World.size_setCell, World.size_drew] at hz20)
  have f20_b0_0 := up0 hb20 (by omega) f19_b0_0
  have f20_b0_1 := up0 hb20 (by omega) f19_b0_1
  have f20_b1_0 := up0 hb20 (by omega) f19_b1_0
  have f20_b1_1 := up0 hb20 (by omega) f19_b1_1
  have f20_b2_0 := up0 hb20 (by omega) f19_b2_0
  have f20_b2_1 := up0 hb20 (by omega) f19_b2_1
  have f20_b2_2 := up0 hb20 (by omega) f19_b2_2
  have f20_b3_0 := up0 hb20 (by omega) f19_b3_0
  have f20_b3_1 := up0 hb20 (by omega) f19_b3_1
  have f20_b4_0 := up0 hb20 (by omega) f19_b4_0
  have f20_b4_1 := up0 hb20 (by omega) f19_b4_1
  have f20_b5_0 := up0 hb20 (by omega) f19_b5_0
  have f20_b5_1 := up0 hb20 (by omega) f19_b5_1
  have f20_b6_0 := up0 hb20 (by omega) f19_b6_0
  have f20_b6_1 := up0 hb20 (by omega) f19_b6_1
  have f20_b6_2 := up0 hb20 (by omega) f19_b6_2
  have f20_b6_3 := up0 hb20 (by omega) f19_b6_3
  have f20_b7_0 := up0 hb20 (by omega) f19_b7_0
  have f20_b7_1 := up0 hb20 (by omega) f19_b7_1
  have f20_b8_0 := up0 hb20 (by omega) f19_b8_0
  have f20_b8_1 := up0 hb20 (by omega) f19_b8_1
  have f20_b9_0 := up0 hb20 (by omega) f19_b9_0
  have f20_b9_1 := up0 hb20 (by omega) f19_b9_1
  have f20_b10_0 := up0 hb20 (by omega) f19_b10_0
  have f20_b10_1 := up0 hb20 (by omega) f19_b10_1
  have f20_b11_0 := up0 hb20 (by omega) f19_b11_0
  have f20_b11_1 := up0 hb20 (by omega) f19_b11_1
  have f20_b12_0 := up0 hb20 (by omega) f19_b12_0
  have f20_b12_1 := up0 hb20 (by omega) f19_b12_1
  have f20_b12_2 := up0 hb20 (by omega) f19_b12_2
  have f20_b12_3 := up0 hb20 (by omega) f19_b12_3
  have f20_b13_0 := up0 hb20 (by omega) f19_b13_0
  have f20_b13_1 := up0 hb20 (by omega) f19_b13_1
  have f20_b14_0 := up0 hb20 (by omega) f19_b14_0
  have f20_b14_1 := up0 hb20 (by omega) f19_b14_1
  have f20_b15_0 := up0 hb20 (by omega) f19_b15_0
  have f20_b15_1 := up0 hb20 (by omega) f19_b15_1
  have f20_b16_0 := up0 hb20 (by omega) f19_b16_0
  have f20_b16_1 := up0 hb20 (by omega) f19_b16_1
  have hB20 : Below w.heap.size w w20 := (by (try show Below _ _ _); repeat (first | (with_reducible refine Below.setCell ?_ (by first | omega | (simp <;> omega)) _) | (with_reducible refine Below.alloc ?_ (by first | omega | (simp <;> omega)) _) | (with_reducible refine Below.drew ?_) | (with_reducible exact Below.refl _ _) | (with_reducible exact hB19) | (with_reducible refine below_call ?_ hb20 (by first | omega | (simp <;> omega))) | (with_reducible refine below_call ?_ (Drew.below hb20 _) (by first | omega | (simp <;> omega)))))
  clear hb20 hB19 f19_b0_0 f19_b0_1 f19_b1_0 f19_b1_1 f19_b2_0 f19_b2_1 f19_b2_2 f19_b3_0 f19_b3_1 f19_b4_0 f19_b4_1 f19_b5_0 f19_b5_1 f19_b6_0 f19_b6_1 f19_b6_2 f19_b6_3 f19_b7_0 f19_b7_1 f19_b8_0 f19_b8_1 f19_b9_0 f19_b9_1 f19_b10_0 f19_b10_1 f19_b11_0 f19_b11_1 f19_b12_0 f19_b12_1 f19_b12_2 f19_b12_3 f19_b13_0 f19_b13_1 f19_b14_0 f19_b14_1 f19_b15_0 f19_b15_1 f19_b16_0 f19_b16_1
  have l20_0 : w.heap.size < w20.heap.size := by omega
  have l20_1 : w.heap.size + 1 < w20.heap.size := by omega
  have l20_2 : w.heap.size + 1 + 1 < w20.heap.size := by omega
  have l20_3 : w.heap.size + 1 + 1 + 1 < w20.heap.size := by omega
  have l20_4 : w.heap.size + 1 + 1 + 1 + 1 < w20.heap.size := by omega
  have l20_5 : w2.heap.size < w20.heap.size := by omega
  have l20_6 : w2.heap.size + 1 < w20.heap.size := by omega
  have l20_7 : w3.heap.size < w20.heap.size := by omega
  have l20_8 : w4.heap.size < w20.heap.size := by omega
  have l20_9 : w5.heap.size < w20.heap.size := by omega
  have l20_10 : w6.heap.size < w20.heap.size := by omega
  have l20_11 : w10.heap.size < w20.heap.size := by omega
  have l20_12 : w14.heap.size < w20.heap.size := by omega
  have l20_13 : w15.heap.size < w20.heap.size := by omega
  have l20_14 : w16.heap.size < w20.heap.size := by omega
  have l20_15 : w17.heap.size < w20.heap.size := by omega
  have l20_16 : w18.heap.size < w20.heap.size := by omega
  clear l19_0 l19_1 l19_2 l19_3 l19_4 l19_5 l19_6 l19_7 l19_8 l19_9 l19_10 l19_11 l19_12 l19_13 l19_14 l19_15 l19_16
  go_wp2_with fail
  refine (i6 _).mono ?_
  rintro e w21 ⟨rfl, hb21⟩
  have hz21 := hb21.size
  (try simp only [World.size_alloc, World.size_setCell, World.size_drew] at hz21)
  have f21_b0_0 := up0 hb21 (by omega) f20_b0_0
  have f21_b0_1 := up0 hb21 (by omega) f20_b0_1
  have f21_b1_0 := up0 hb21 (by omega) f20_b1_0
  have f21_b1_1 := up0 hb21 (by omega) f20_b1_1
  have f21_b2_0 := up0 hb21 (by omega) f20_b2_0
  have f21_b2_1 := up0 hb21 (by omega) f20_b2_1
  have f21_b2_2 := up0 hb21 (by omega) f20_b2_2
  have f21_b3_0 := up0 hb21 (by omega) f20_b3_0
  have f21_b3_1 := up0 hb21 (by omega) f20_b3_1
  have f21_b4_0 := up0 hb21 (by omega) f20_b4_0
  have f21_b4_1 := up0 hb21 (by omega) f20_b4_1
  have f21_b5_0 := up0 hb21 (by omega) f20_b5_0
  have f21_b5_1 := up0 hb21 (by omega) f20_b5_1
  have f21_b6_0 := up0 hb21 (by omega) f20_b6_0
  have f21_b6_1 := up0 hb21 (by omega) f20_b6_1
  have f21_b6_2 := up0 hb21 (by omega) f20_b6_2
  have f21_b6_3 := up0 hb21 (by omega) f20_b6_3
  have f21_b7_0 := up0 hb21 (by omega) f20_b7_0
  have f21_b7_1 := up0 hb21 (by omega) f20_b7_1
  have f21_b8_0 := up0 hb21 (by omega) f20_b8_0
  have f21_b8_1 := up0 hb21 (by omega) f20_b8_1
  have f21_b9_0 := up0 hb21 (by omega) f20_b9_0
  have f21_b9_1 := up0 hb21 (by omega) f20_b9_1
  have f21_b10_0 := up0 hb21 (by omega) f20_b10_0
  have f21_b10_1 := up0 hb21 (by omega) f20_b10_1
  have f21_b11_0 := up0 hb21 (by omega) f20_b11_0
  have f21_b11_1 := up0 hb21 (by omega) f20_b11_1
  have f21_b12_0 := up0 hb21 (by omega) f20_b12_0
  have f21_b12_1 := up0 hb21 (by omega) f20_b12_1
  have f21_b12_2 := up0 hb21 (by omega) f20_b12_2
  have f21_b12_3 := up0 hb21 (by omega) f20_b12_3
  have f21_b13_0 := up0 hb21 (by omega) f20_b13_0
  have f21_b13_1 := up0 hb21 (by omega) f20_b13_1
  have f21_b14_0 := up0 hb21 (by omega) f20_b14_0
  have f21_b14_1 := up0 hb21 (by omega) f20_b14_1
  have f21_b15_0 := up0 hb21 (by omega) f20_b15_0
  have f21_b15_1 := up0 hb21 (by omega) f20_b15_1
  have f21_b16_0 := up0 hb21 (by omega) f20_b16_0
  have f21_b16_1 := up0 hb21 (by omega) f20_b16_1
  have hB21 : Below w.heap.size w w21 := (by (try show Below _ _ _); repeat (first | (with_reducible refine Below.setCell ?_ (by first | omega | (simp <;> omega)) _) | (with_reducible refine Below.alloc ?_ (by first | omega | (simp <;> omega)) _) | (with_reducible refine Below.drew ?_) | (with_reducible exact Below.refl _ _) | (with_reducible exact hB20) | (with_reducible refine below_call ?_ hb21 (by first | omega | (simp <;> omega))) | (with_reducible refine below_call ?_ (Drew.below hb21 _) (by first | omega | (simp <;> omega)))))
  clear hb21 hB20 f20_b0_0 f20_b0_1 f20_b1_0 f20_b1_1 f20_b2_0 f20_b2_1 f20_b2_2 f20_b3_0 f20_b3_1 f20_b4_0 f20_b4_1 f20_b5_0 f20_b5_1 f20_b6_0 f20_b6_1 f20_b6_2 f20_b6_3 f20_b7_0 f20_b7_1 f20_b8_0 f20_b8_1 f20_b9_0 f20_b9_1 f20_b10_0 f20_b10_1 f20_b11_0 f20_b11_1 f20_b12_0 f20_b12_1 f20_b12_2 f20_b12_3 f20_b13_0 f20_b13_1 f20_b14_0 f20_b14_1 f20_b15_0 f20_b15_1 f20_b16_0 f20_b16_1
  have l21_0 : w.heap.size < w21.heap.size := by omega
  have l21_1 : w.heap.size + 1 < w21.heap.size := by omega
  have l21_2 : w.heap.size + 1 + 1 < w21.heap.size := by omega
  have l21_3 : w.heap.size + 1 + 1 + 1 < w21.heap.size := by omega
  have l21_4 : w.heap.size + 1 + 1 + 1 + 1 < w21.heap.size := by omega
  have l21_5 : w2.heap.size < w21.heap.size := by omega
  have l21_6 : w2.heap.size + 1 < w21.heap.size := by omega
  have l21_7 : w3.heap.size < w21.heap.size := by omega
  have l21_8 : w4.heap.size < w21.heap.size := by omega
  have l21_9 : w5.heap.size < w21.heap.size := by omega
  have l21_10 : w6.heap.size < w21.heap.size := by omega
  have l21_11 : w10.heap.size < w21.heap.size := by omega
  have l21_12 : w14.heap.size < w21.heap.size := by omega
  have l21_13 : w15.heap.size < w21.heap.size := by omega
  have l21_14 : w16.heap.size < w21.heap.size := by omega
  have l21_15 : w17.heap.size < w21.heap.size := by omega
  have l21_16 : w18.heap.size < w21.heap.size := by omega
  clear l20_0 l20_1 l20_2 l20_3 l20_4 l20_5 l20_6 l20_7 l20_8 l20_9 l20_10 l20_11 l20_12 l20_13 l20_14 l20_15 l20_16
  go_wp2_with fail
  refine (i7 _).mono ?_
  rintro e w22 ⟨rfl, hb22⟩
  have hz22 := hb22.size
  (try simp only [World.size_alloc, World.size_setCell, World.size_drew] at hz22)
  have f22_b0_0 := up0 hb22 (by omega) f21_b0_0
  have f22_b0_1 := up0 hb22 (by omega) f21_b0_1
  have f22_b1_0 := up0 hb22 (by omega) f21_b1_0
  have f22_b1_1 := up0 hb22 (by omega) f21_b1_1
  have f22_b2_0 := up0 hb22 (by omega) f21_b2_0
  have f22_b2_1 := up0 hb22 (by omega) f21_b2_1
  have f22_b2_2 := up0 hb22 (by omega) f21_b2_2
  have f22_b3_0 := up0 hb22 (by omega) f21_b3_0
  have f22_b3_1 := up0 hb22 (by omega) f21_b3_1
  have f22_b4_0 := up0 hb22 (by omega) f21_b4_0
  have f22_b4_1 := up0 hb22 (by omega) f21_b4_1
  have f22_b5_0 := up0 hb22 (by omega) f21_b5_0
  have f22_b5_1 := up0 hb22 (by omega) f21_b5_1
  have f22_b6_0 := up0 hb22 (by omega) f21_b6_0
  have f22_b6_1 := up0 hb22 (by omega) f21_b6_1
  have f22_b6_2 := up0 hb22 (by omega) f21_b6_2
  have f22_b6_3 := up0 hb22 (by omega) f21_b6_3
  have f22_b7_0 := up0 hb22 (by omega) f21_b7_0
  have f22_b7_1 := up0 hb22 (by omega) f21_b7_1
  have f22_b8_0 := up0 hb22 (by omega) f21_b8_0
  have f22_b8_1 := up0 hb22 (by omega) f21_b8_1
  have f22_b9_0 := up0 hb22 (by omega) f21_b9_0
  have f22_b9_1 := up0 hb22 (by omega) f21_b9_1
  have f22_b10_0 := up0 hb22 (by omega) f21_b10_0
  have f22_b10_1 := up0 hb22 (by omega) f21_b10_1
  have f22_b11_0 := up0 hb22 (by omega) f21_b11_0
  have f22_b11_1 := up0 hb22 (by omega) f21_b11_1
  have f22_b12_0 := up0 hb22 (by omega) f21_b12_0
  have f22_b12_1 := up0 hb22 (by omega) f21_b12_1
  have f22_b12_2 := up0 hb22 (by omega) f21_b12_2
  have f22_b12_3 := up0 hb22 (by omega) f21_b12_3
  have f22_b13_0 := up0 hb22 (by omega) f21_b13_0
  have f22_b13_1 := up0 hb22 (by omega) f21_b13_1
  have f22_b14_0 := up0 hb22 (by omega) f21_b14_0
  have f22_b14_1 := up0 hb22 (by omega) f21_b14_1
  have f22_b15_0 := up0 hb22 (by omega) f21_b15_0
  have f22_b15_1 := up0 hb22 (by omega) f21_b15_1
  have f22_b16_0 := up0 hb22 (by omega) f21_b16_0
  have f22_b16_1 := up0 hb22 (by omega) f21_b16_1
  have hB22 : Below w.heap.size w w22 := (by (try show Below _ _ _); repeat (first | (with_reducible refine Below.setCell ?_ (by first | omega | (simp <;> omega)) _) | (with_reducible refine Below.alloc ?_ (by first | omega | (simp <;> omega)) _) | (with_reducible refine Below.drew ?_) | (with_reducible exact Below.refl _ _) | (with_reducible exact hB21) | (with_reducible refine below_call ?_ hb22 (by first | omega | (simp <;> omega))) | (with_reducible refine below_call ?_ (Drew.below hb22 _) (by first | omega | (simp <;> omega)))))
  clear hb22 hB21 f21_b0_0 f21_b0_1 f21_b1_0 f21_b1_1 f21_b2_0 f21_b2_1 f21_b2_2 f21_b3_0 f21_b3_1 f21_b4_0 f21_b4_1 f21_b5_0 f21_b5_1 f21_b6_0 f21_b6_1 f21_b6_2 f21_b6_3 f21_b7_0 f21_b7_1 f21_b8_0 f21_b8_1 f21_b9_0 f21_b9_1 f21_b10_0 f21_b10_1 f21_b11_0 f21_b11_1 f21_b12_0 f21_b12_1 f21_b12_2 f21_b12_3 f21_b13_0 f21_b13_1 f21_b14_0 f21_b14_1 f21_b15_0 f21_b15_1 f21_b16_0 f21_b16_1
  have l22_0 : w.heap.size < w22.heap.size := by omega
  have l22_1 : w.heap.size + 1 < w22.heap.size := by omega
  have l22_2 : w.heap.size + 1 + 1 < w22.heap.size := by omega
  have l22_3 : w.heap.size + 1 + 1 + 1 < w22.heap.size := by omega
  have l22_4 : w.heap.size + 1 + 1 + 1 + 1 < w22.heap.size := by omega
  have l22_5 : w2.heap.size < w22.heap.size := by omega
  have l22_6 : w2.heap.size + 1 < w22.heap.size := by omega
  have l22_7 : w3.heap.size < w22.heap.size := by omega
  have l22_8 : w4.heap.size < w22.heap.size := by omega
  have l22_9 : w5.heap.size < w22.heap.size := by omega
  have l22_10 : w6.heap.size < w22.heap.size := by omega
  have l22_11 : w10.heap.size < w22.heap.size := by omega
  have l22_12 : w14.heap.size < w22.heap.size := by omega
  have l22_13 : w15.heap.size < w22.heap.size := by omega
  have l22_14 : w16.heap.size < w22.heap.size := by omega
  have l22_15 : w17.heap.size < w22.heap.size := by omega
  have l22_16 : w18.heap.size < w22.heap.size := by omega
  clear l21_0 l21_1 l21_2 l21_3 l21_4 l21_5 l21_6 l21_7 l21_8 l21_9 l21_10 l21_11 l21_12 l21_13 l21_14 l21_15 l21_16
  go_wp2_with fail
  refine (hH _ _ (Elems.of2 (by simp [go_sem]) (by simp [go_sem]) (by simp [go_sem]) (by simp [go_sem]) (by simp))).mono ?_
  rintro e w23 ⟨rfl, hb23⟩
  have hz23 := hb23.size
  (try simp only [World.size_alloc, World.size_setCell, World.size_drew] at hz23)
  have f23_b0_0 := up1 hb23 (by omega) f22_b0_0
  have f23_b0_1 := up1 hb23 (by omega) f22_b0_1
  have f23_b1_0 := up1 hb23 (by omega) f22_b1_0
  have f23_b1_1 := up1 hb23 (by omega) f22_b1_1
  have f23_b2_0 := up1 hb23 (by omega) f22_b2_0
  have f23_b2_1 := up1 hb23 (by omega) f22_b2_1
  have f23_b2_2 := up1 hb23 (by omega) f22_b2_2
  have f23_b3_0 := up1 hb23 (by omega) f22_b3_0
  have f23_b3_1 := up1 hb23 (by omega) f22_b3_1
  have f23_b4_0 := up1 hb23 (by omega) f22_b4_0
  have f23_b4_1 := up1 hb23 (by omega) f22_b4_1
  have f23_b5_0 := up1 hb23 (by omega) f22_b5_0
  have f23_b5_1 := up1 hb23 (by omega) f22_b5_1
  have f23_b6_0 := up1 hb23 (by omega) f22_b6_0
  have f23_b6_1 := up1 hb23 (by omega) f22_b6_1
  have f23_b6_2 := up1 hb23 (by omega) f22_b6_2
  have f23_b6_3 := up1 hb23 (by omega) f22_b6_3
  have f23_b7_0 := up1 hb23 (by omega) f22_b7_0
  have f23_b7_1 := up1 hb23 (by omega) f22_b7_1
  have f23_b8_0 := up1 hb23 (by omega) f22_b8_0
  have f23_b8_1 := up1 hb23 (by omega) f22_b8_1
  have f23_b9_0 := up1 hb23 (by omega) f22_b9_0
  have f23_b9_1 := up1 hb23 (by omega) f22_b9_1
  have f23_b10_0 := up1 hb23 (by omega) f22_b10_0
  have f23_b10_1 := up1 hb23 (by omega) f22_b10_1
  have f23_b11_0 := up1 hb23 (by omega) f22_b11_0
  have f23_b11_1 := up1 hb23 (by omega) f22_b11_1
  have f23_b12_0 := up1 hb23 (by omega) f22_b12_0
  have f23_b12_1 := up1 hb23 (by omega) f22_b12_1
  have f23_b12_2 := up1 hb23 (by omega) f22_b12_2
  have f23_b12_3 := up1 hb23 (by omega) f22_b12_3
  have f23_b13_0 := up1 hb23 (by omega) f22_b13_0
  have f23_b13_1 := up1 hb23 (by omega) f22_b13_1
  have f23_b14_0 := up1 hb23 (by omega) f22_b14_0
  have f23_b14_1 := up1 hb23 (by omega) f22_b14_1
  have f23_b15_0 := up1 hb23 (by omega) f22_b15_0
  have f23_b15_1 := up1 hb23 (by omega) f22_b15_1
  have f23_b16_0 := up1 hb23 (by omega) f22_b16_0
  have f23_b16_1 := up1 hb23 (by omega) f22_b16_1
  have f23_b17_0 : w23.cell? ⟨w22.heap.size, 0, none⟩ = some (.int .i64 x0) := (hb23.cell (p := ⟨w22.heap.size, 0, none⟩) (by show w22.heap.size < _; first | omega | (simp only [World.size_alloc, World.size_setCell, World.size_drew]; omega))).trans (by simp [go_sem, cell_set])
  have f23_b17_1 : w23.cell? ⟨w22.heap.size, 1, none⟩ = some (.int .i64 x1) := (hb23.cell (p := ⟨w22.heap.size, 1, none⟩) (by show w22.heap.size < _; first | omega | (simp only [World.size_alloc, World.size_setCell, World.size_drew]; omega))).trans (by simp [go_sem, cell_set])
  have f23_b17_2 : w23.cell? ⟨w22.heap.size, 2, none⟩ = some (.int .i64 y0) := (hb23.cell (p := ⟨w22.heap.size, 2, none⟩) (by show w22.heap.size < _; first | omega | (simp only [World.size_alloc, World.size_setCell, World.size_drew]; omega))).trans (by simp [go_sem, cell_set])
  have f23_b17_3 : w23.cell? ⟨w22.heap.size, 3, none⟩ = some (.int .i64 y1) := (hb23.cell (p := ⟨w22.heap.size, 3, none⟩) (by show w22.heap.size < _; first | omega | (simp only [World.size_alloc, World.size_setCell, World.size_drew]; omega))).trans (by simp [go_sem, cell_set])
  have hB23 : Below w.heap.size w w23 := (by (try show Below _ _ _); repeat (first | (with_reducible refine Below.setCell ?_ (by first | omega | (simp <;> omega)) _) | (with_reducible refine Below.alloc ?_ (by first | omega | (simp <;> omega)) _) | (with_reducible refine Below.drew ?_) | (with_reducible exact Below.refl _ _) | (with_reducible exact hB22) | (with_reducible refine below_call ?_ hb23 (by first | omega | (simp <;> omega))) | (with_reducible refine below_call ?_ (Drew.below hb23 _) (by first | omega | (simp <;> omega)))))
  clear hb23 hB22 f22_b0_0 f22_b0_1 f22_b1_0 f22_b1_1 f22_b2_0 f22_b2_1 f22_b2_2 f22_b3_0 f22_b3_1 f22_b4_0 f22_b4_1 f22_b5_0 f22_b5_1 f22_b6_0 f22_b6_1 f22_b6_2 f22_b6_3 f22_b7_0 f22_b7_1 f22_b8_0 f22_b8_1 f22_b9_0 f22_b9_1 f22_b10_0 f22_b10_1 f22_b11_0 f22_b11_1 f22_b12_0 f22_b12_1 f22_b12_2 f22_b12_3 f22_b13_0 f22_b13_1 f22_b14_0 f22_b14_1 f22_b15_0 f22_b15_1 f22_b16_0 f22_b16_1
  have l23_0 : w.heap.size < w23.heap.size := by omega
  have l23_1 : w.heap.size + 1 < w23.heap.size := by omega
  have l23_2 : w.heap.size + 1 + 1 < w23.heap.size := by omega
  have l23_3 : w.heap.size + 1 + 1 + 1 < w23.heap.size := by omega
  have l23_4 : w.heap.size + 1 + 1 + 1 + 1 < w23.heap.size := by omega
  have l23_5 : w2.heap.size < w23.heap.size := by omega
  have l23_6 : w2.heap.size + 1 < w23.heap.size := by omega
  have l23_7 : w3.heap.size < w23.heap.size := by omega
  have l23_8 : w4.heap.size < w23.heap.size := by omega
  have l23_9 : w5.heap.size < w23.heap.size := by omega
  have l23_10 : w6.heap.size < w23.heap.size := by omega
  have l23_11 : w10.heap.size < w23.heap.size := by omega
  have l23_12 : w14.heap.size < w23.heap.size := by omega
  have l23_13 : w15.heap.size < w23.heap.size := by omega
  have l23_14 : w16.heap.size < w23.heap.size := by omega
  have l23_15 : w17.heap.size < w23.heap.size := by omega
  have l23_16 : w18.heap.size < w23.heap.size := by omega
  have l23_17 : w22.heap.size < w23.heap.size := by omega
  clear l22_0 l22_1 l22_2 l22_3 l22_4 l22_5 l22_6 l22_7 l22_8 l22_9 l22_10 l22_11 l22_12 l22_13 l22_14 l22_15 l22_16
  go_wp2_with fail
  refine (hM _ _ (Elems.of2 (by simp [go_sem]) (by simp [go_sem]) (by simp [go_sem]) (by simp [go_sem]) (by simp))).mono ?_
  rintro e w24 ⟨rfl, hb24⟩
  have hz24 := hb24.size
  (try simp only [World.size_alloc, World.size_setCell, World.size_drew] at hz24)
  have f24_b0_0 := up2 hb24 (by omega) f23_b0_0
  have f24_b0_1 := up2 hb24 (by omega) f23_b0_1
  have f24_b1_0 := up2 hb24 (by omega) f23_b1_0
  have f24_b1_1 := up2 hb24 (by omega) f23_b1_1
  have f24_b2_0 := up2 hb24 (by omega) f23_b2_0
  have f24_b2_1 := up2 hb24 (by omega) f23_b2_1
  have f24_b2_2 := up2 hb24 (by omega) f23_b2_2
  have f24_b3_0 := up2 hb24 (by omega) f23_b3_0
  have f24_b3_1 := up2 hb24 (by omega) f23_b3_1
  have f24_b4_0 := up2 hb24 (by omega) f23_b4_0
  have f24_b4_1 := up2 hb24 (by omega) f23_b4_1
  have f24_b5_0 := up2 hb24 (by omega) f23_b5_0
  have f24_b5_1 := up2 hb24 (by omega) f23_b5_1
  have f24_b6_0 := up2 hb24 (by omega) f23_b6_0
  have f24_b6_1 := up2 hb24 (by omega) f23_b6_1
  have f24_b6_2 := up2 hb24 (by omega) f23_b6_2
  have f24_b6_3 := up2 hb24 (by omega) f23_b6_3
  have f24_b7_0 := up2 hb24 (by omega) f23_b7_0
  have f24_b7_1 := up2 hb24 (by omega) f23_b7_1
  have f24_b8_0 := up2 hb24 (by omega) f23_b8_0
  have f24_b8_1 := up2 hb24 (by omega) f23_b8_1
  have f24_b9_0 := up2 hb24 (by omega) f23_b9_0
  have f24_b9_1 := up2 hb24 (by omega) f23_b9_1
  have f24_b10_0 := up2 hb24 (by omega) f23_b10_0
  have f24_b10_1 := up2 hb24 (by omega) f23_b10_1
  have f24_b11_0 := up2 hb24 (by omega) f23_b11_0
  have f24_b11_1 := up2 hb24 (by omega) f23_b11_1
  have f24_b12_0 := up2 hb24 (by omega) f23_b12_0
  have f24_b12_1 := up2 hb24 (by omega) f23_b12_1
  have f24_b12_2 := up2 hb24 (by omega) f23_b12_2
  have f24_b12_3 := up2 hb24 (by omega) f23_b12_3
  have f24_b13_0 := up2 hb24 (by omega) f23_b13_0
  have f24_b13_1 := up2 hb24 (by omega) f23_b13_1
  have f24_b14_0 := up2 hb24 (by omega) f23_b14_0
  have f24_b14_1 := up2 hb24 (by omega) f23_b14_1
  have f24_b15_0 := up2 hb24 (by omega) f23_b15_0
  have f24_b15_1 := up2 hb24 (by omega) f23_b15_1
  have f24_b16_0 := up2 hb24 (by omega) f23_b16_0
  have f24_b16_1 := up2 hb24 (by omega) f23_b16_1
  have f24_b17_0 := up2 hb24 (by omega) f23_b17_0
  have f24_b17_1 := up2 hb24 (by omega) f23_b17_1
  have f24_b17_2 := up2 hb24 (by omega) f23_b17_2
  have f24_b17_3 := up2 hb24 (by omega) f23_b17_3
  have f24_b18_0 : w24.cell? ⟨w23.heap.size, 0, none⟩ = some (.int .i64 ((min x0 y0))) := (hb24.cell (p := ⟨w23.heap.size, 0, none⟩) (by show w23.heap.size < _; first | omega | (simp only [World.size_alloc, World.size_setCell, World.size_drew]; omega))).trans (by simp [go_sem, cell_set])
  have f24_b18_1 : w24.cell? ⟨w23.heap.size, 1, none⟩ = some (.int .i64 ((max x1 y1))) := (hb24.cell (p := ⟨w23.heap.size, 1, none⟩) (by show w23.heap.size < _; first | omega | (simp only [World.size_alloc, World.size_setCell, World.size_drew]; omega))).trans (by simp [go_sem, cell_set])
  have f24_b19_0 : w24.cell? ⟨w23.heap.size + 1, 0, none⟩ = some (.int .i64 ((min x0 y0))) := (hb24.cell (p := ⟨w23.heap.size + 1, 0, none⟩) (by show w23.heap.size + 1 < _; first | omega | (simp only [World.size_alloc, World.size_setCell, World.size_drew]; omega))).trans (by simp [go_sem, cell_set])
  have f24_b19_1 : w24.cell? ⟨w23.heap.size + 1, 1, none⟩ = some (.int .i64 ((max x1 y1))) := (hb24.cell (p := ⟨w23.heap.size + 1, 1, none⟩) (by show w23.heap.size + 1 < _; first | omega | (simp only [World.size_alloc, World.size_setCell, World.size_drew]; omega))).trans (by simp [go_sem, cell_set])
  have f24_b19_2 : w24.cell? ⟨w23.heap.size + 1, 2, none⟩ = some (.int .i64 x0) := (hb24.cell (p := ⟨w23.heap.size + 1, 2, none⟩) (by show w23.heap.size + 1 < _; first | omega | (simp only [World.size_alloc, World.size_setCell, World.size_drew]; omega))).trans (by simp [go_sem, cell_set])
  have f24_b19_3 : w24.cell? ⟨w23.heap.size + 1, 3, none⟩ = some (.int .i64 x1) := (hb24.cell (p := ⟨w23.heap.size + 1, 3, none⟩) (by show w23.heap.size + 1 < _; first | omega | (simp only [World.size_alloc, World.size_setCell, World.size_drew]; omega))).trans (by simp [go_sem, cell_set])
  have hB24 : Below w.heap.size w w24 := (by (try show Below _ _ _); repeat (first | (with_reducible refine Below.setCell ?_ (by first | omega | (simp <;> omega)) _) | (with_reducible refine Below.alloc ?_ (by first | omega | (simp <;> omega)) _) | (with_reducible refine Below.drew ?_) | (with_reducible exact Below.refl _ _) | (with_reducible exact hB23) | (with_reducible refine below_call ?_ hb24 (by first | omega | (simp <;> omega))) | (with_reducible refine below_call ?_ (Drew.below hb24 _) (by first | omega | (simp <;> omega)))))
  clear hb24 hB23 f23_b0_0 f23_b0_1 f23_b1_0 f23_b1_1 f23_b2_0 f23_b2_1 f23_b2_2 f23_b3_0 f23_b3_1 f23_b4_0 f23_b4_1 f23_b5_0 f23_b5_1 f23_b6_0 f23_b6_1 f23_b6_2 f23_b6_3 f23_b7_0 f23_b7_1 f23_b8_0 f23_b8_1 f23_b9_0 f23_b9_1 f23_b10_0 f23_b10_1 f23_b11_0 f23_b11_1 f23_b12_0 f23_b12_1 f23_b12_2 f23_b12_3 f23_b13_0 f23_b13_1 f23_b14_0 f23_b14_1 f23_b15_0 f23_b15_1 f23_b16_0 f23_b16_1 f23_b17_0 f23_b17_1 f23_b17_2 f23_b17_3
  have l24_0 : w.heap.size < w24.heap.size := by omega
  have l24_1 : w.heap.size + 1 < w24.heap.size := by omega
  have l24_2 : w.heap.size + 1 + 1 < w24.heap.size := by omega
  have l24_3 : w.heap.size + 1 + 1 + 1 < w24.heap.size := by omega
  have l24_4 : w.heap.size + 1 + 1 + 1 + 1 < w24.heap.size := by omega
  have l24_5 : w2.heap.size < w24.heap.size := by omega
  have l24_6 : w2.heap.size + 1 < w24.heap.size := by omega
  have l24_7 : w3.heap.size < w24.heap.size := by omega
  have l24_8 : w4.heap.size < w24.heap.size := by omega
  have l24_9 : w5.heap.size < w24.heap.size := by omega
  have l24_10 : w6.heap.size < w24.heap.size := by omega
  have l24_11 : w10.heap.size < w24.heap.size := by omega
  have l24_12 : w14.heap.size < w24.heap.size := by omega
  have l24_13 : w15.heap.size < w24.heap.size := by omega
  have l24_14 : w16.heap.size < w24.heap.size := by omega
  have l24_15 : w17.heap.size < w24.heap.size := by omega
  have l24_16 : w18.heap.size < w24.heap.size := by omega
  have l24_17 : w22.heap.size < w24.heap.size := by omega
  have l24_18 : w23.heap.size < w24.heap.size := by omega
  have l24_19 : w23.heap.size + 1 < w24.heap.size := by omega
  clear l23_0 l23_1 l23_2 l23_3 l23_4 l23_5 l23_6 l23_7 l23_8 l23_9 l23_10 l23_11 l23_12 l23_13 l23_14 l23_15 l23_16 l23_17
  go_wp2_with fail
  refine (i8 _).mono ?_
  rintro e w25 ⟨rfl, hb25⟩
  have hz25 := hb25.size
  (try simp only [World.size_alloc, World.size_setCell, World.size_drew] at hz25)
  have f25_b0_0 := up1 hb25 (by omega) f24_b0_0
  have f25_b0_1 := up1 hb25 (by omega) f24_b0_1
  have f25_b1_0 := up1 hb25 (by omega) f24_b1_0
  have f25_b1_1 := up1 hb25 (by omega) f24_b1_1
  have f25_b2_0 := up1 hb25 (by omega) f24_b2_0
  have f25_b2_1 := up1 hb25 (by omega) f24_b2_1
  have f25_b2_2 := up1 hb25 (by omega) f24_b2_2
  have f25_b3_0 := up1 hb25 (by omega) f24_b3_0
  have f25_b3_1 := up1 hb25 (by omega) f24_b3_1
  have f25_b4_0 := up1 hb25 (by omega) f24_b4_0
  have f25_b4_1 := up1 hb25 (by omega) f24_b4_1
  have f25_b5_0 := up1 hb25 (by omega) f24_b5_0
  have f25_b5_1 := up1 hb25 (by omega) f24_b5_1
  have f25_b6_0 := up1 hb25 (by omega) f24_b6_0
  have f25_b6_1 := up1 hb25 (by omega) f24_b6_1
  have f25_b6_2 := up1 hb25 (by omega) f24_b6_2
  have f25_b6_3 := up1 hb25 (by omega) f24_b6_3
  have f25_b7_0 := up1 hb25 (by omega) f24_b7_0
  have f25_b7_1 := up1 hb25 (by omega) f24_b7_1
  have f25_b8_0 := up1 hb25 (by omega) f24_b8_0
  have f25_b8_1 := up1 hb25 (by omega) f24_b8_1
  have f25_b9_0 := up1 hb25 (by omega) f24_b9_0
  have f25_b9_1 := up1 hb25 (by omega) f24_b9_1
  have f25_b10_0 := up1 hb25 (by omega) f24_b10_0
  have f25_b10_1 := up1 hb25 (by omega) f24_b10_1
  have f25_b11_0 := up1 hb25 (by omega) f24_b11_0
  have f25_b11_1 := up1 hb25 (by omega) f24_b11_1
  have f25_b12_0 := up1 hb25 (by omega) f24_b12_0
  have f25_b12_1 := up1 hb25 (by omega) f24_b12_1
  have f25_b12_2 := up1 hb25 (by omega) f24_b12_2
  have f25_b12_3 := up1 hb25 (by omega) f24_b12_3
  have f25_b13_0 := up1 hb25 (by omega) f24_b13_0
  have f25_b13_1 := up1 hb25 (by omega) f24_b13_1
  have f25_b14_0 := up1 hb25 (by omega) f24_b14_0
  have f25_b14_1 := up1 hb25 (by omega) f24_b14_1
  have f25_b15_0 := up1 hb25 (by omega) f24_b15_0
  have f25_b15_1 := up1 hb25 (by omega) f24_b15_1
  have f25_b16_0 := up1 hb25 (by omega) f24_b16_0
  have f25_b16_1 := up1 hb25 (by omega) f24_b16_1
  have f25_b17_0 := up1 hb25 (by omega) f24_b17_0
  have f25_b17_1 := up1 hb25 (by omega) f24_b17_1
  have f25_b17_2 := up1 hb25 (by omega) f24_b17_2
  have f25_b17_3 := up1 hb25 (by omega) f24_b17_3
  have f25_b18_0 := up1 hb25 (by omega) f24_b18_0
  have f25_b18_1 := up1 hb25 (by omega) f24_b18_1
  have f25_b19_0 := up1 hb25 (by omega) f24_b19_0
  have f25_b19_1 := up1 hb25 (by omega) f24_b19_1
  have f25_b19_2 := up1 hb25 (by omega) f24_b19_2
  have f25_b19_3 := up1 hb25 (by omega) f24_b19_3
  have f25_b20_0 : w25.cell? ⟨w24.heap.size, 0, none⟩ = some (.int .i64 x0) := (hb25.cell (p := ⟨w24.heap.size, 0, none⟩) (by show w24.heap.size < _; first | omega | (simp only [World.size_alloc, World.size_setCell, World.size_drew]; omega))).trans (by simp [go_sem, cell_set])
  have f25_b20_1 : w25.cell? ⟨w24.heap.size, 1, none⟩ = some (.int .i64 x1) := (hb25.cell (p := ⟨w24.heap.size, 1, none⟩) (by show w24.heap.size < _; first | omega | (simp only [World.size_alloc, World.size_setCell, World.size_drew]; omega))).trans (by simp [go_sem, cell_set])
  have hB25 : Below w.heap.size w w25 := (by (try show Below _ _ _); repeat (first | (with_reducible refine Below.setCell ?_ (by first | omega | (simp <;> omega)) _) | (with_reducible refine Below.alloc ?_ (by first | omega | (simp <;> omega)) _) | (with_reducible refine Below.drew ?_) | (with_reducible exact Below.refl _ _) | (with_reducible exact hB24) | (with_reducible refine below_call ?_ hb25 (by first | omega | (simp <;> omega))) | (with_reducible refine below_call ?_ (Drew.below hb25 _) (by first | omega | (simp <;> omega)))))
  clear hb25 hB24 f24_b0_0 f24_b0_1 f24_b1_0 f24_b1_1 f24_b2_0 f24_b2_1 f24_b2_2 f24_b3_0 f24_b3_1 f24_b4_0 f24_b4_1 f24_b5_0 f24_b5_1 f24_b6_0 f24_b6_1 f24_b6_2 f24_b6_3 f24_b7_0 f24_b7_1 f24_b8_0 f24_b8_1 f24_b9_0 f24_b9_1 f24_b10_0 f24_b10_1 f24_b11_0 f24_b11_1 f24_b12_0 f24_b12_1 f24_b12_2 f24_b12_3 f24_b13_0 f24_b13_1 f24_b14_0 f24_b14_1 f24_b15_0 f24_b15_1 f24_b16_0 f24_b16_1 f24_b17_0 f24_b17_1 f24_b17_2 f24_b17_3 f24_b18_0 f24_b18_1 f24_b19_0 f24_b19_1 f24_b19_2 f24_b19_3
  have l25_0 : w.heap.size < w25.heap.size := by omega
  have l25_1 : w.heap.size + 1 < w25.heap.size := by omega
  have l25_2 : w.heap.size + 1 + 1 < w25.heap.size := by omega
  have l25_3 : w.heap.size + 1 + 1 + 1 < w25.heap.size := by omega
  have l25_4 : w.heap.size + 1 + 1 + 1 + 1 < w25.heap.size := by omega
  have l25_5 : w2.heap.size < w25.heap.size := by omega
  have l25_6 : w2.heap.size + 1 < w25.heap.size := by omega
  have l25_7 : w3.heap.size < w25.heap.size := by omega
  have l25_8 : w4.heap.size < w25.heap.size := by omega
  have l25_9 : w5.heap.size < w25.heap.size := by omega
  have l25_10 : w6.heap.size < w25.heap.size := by omega
  have l25_11 : w10.heap.size < w25.heap.size := by omega
  have l25_12 : w14.heap.size < w25.heap.size := by omega
  have l25_13 : w15.heap.size < w25.heap.size := by omega
  have l25_14 : w16.heap.size < w25.heap.size := by omega
  have l25_15 : w17.heap.size < w25.heap.size := by omega
  have l25_16 : w18.heap.size < w25.heap.size := by omega
  have l25_17 : w22.heap.size < w25.heap.size := by omega
  have l25_18 : w23.heap.size < w25.heap.size := by omega
  have l25_19 : w23.heap.size + 1 < w25.heap.size := by omega
  have l25_20 : w24.heap.size < w25.heap.size := by omega
  clear l24_0 l24_1 l24_2 l24_3 l24_4 l24_5 l24_6 l24_7 l24_8 l24_9 l24_10 l24_11 l24_12 l24_13 l24_14 l24_15 l24_16 l24_17 l24_18 l24_19
  go_wp2_with fail
  refine (i9 _).mono ?_
  rintro e w26 ⟨rfl, hb26⟩
  have hz26 := hb26.size
  (try simp only [World.size_alloc, World.size_setCell, World.size_drew] at hz26)
  have f26_b0_0 := up0 hb26 (by omega) f25_b0_0
  have f26_b0_1 := up0 hb26 (by omega) f25_b0_1
  have f26_b1_0 := up0 hb26 (by omega) f25_b1_0
  have f26_b1_1 := up0 hb26 (by omega) f25_b1_1
  have f26_b2_0 := up0 hb26 (by omega) f25_b2_0
  have f26_b2_1 := up0 hb26 (by omega) f25_b2_1
  have f26_b2_2 := up0 hb26 (by omega) f25_b2_2
  have f26_b3_0 := up0 hb26 (by omega) f25_b3_0
  have f26_b3_1 := up0 hb26 (by omega) f25_b3_1
  have f26_b4_0 := up0 hb26 (by omega) f25_b4_0
  have f26_b4_1 := up0 hb26 (by omega) f25_b4_1
  have f26_b5_0 := up0 hb26 (by omega) f25_b5_0
  have f26_b5_1 := up0 hb26 (by omega) f25_b5_1
  have f26_b6_0 := up0 hb26 (by omega) f25_b6_0
  have f26_b6_1 := up0 hb26 (by omega) f25_b6_1
  have f26_b6_2 := up0 hb26 (by omega) f25_b6_2
  have f26_b6_3 := up0 hb26 (by omega) f25_b6_3
  have f26_b7_0 := up0 hb26 (by omega) f25_b7_0
  have f26_b7_1 := up0 hb26 (by omega) f25_b7_1
  have f26_b8_0 := up0 hb26 (by omega) f25_b8_0
  have f26_b8_1 := up0 hb26 (by omega) f25_b8_1
  have f26_b9_0 := up0 hb26 (by omega) f25_b9_0
  have f26_b9_1 := up0 hb26 (by omega) f25_b9_1
  have f26_b10_0 := up0 hb26 (by omega) f25_b10_0
  have f26_b10_1 := up0 hb26 (by omega) f25_b10_1
  have f26_b11_0 := up0 hb26 (by omega) f25_b11_0
  have f26_b11_1 := up0 hb26 (by omega) f25_b11_1
  have f26_b12_0 := up0 hb26 (by omega) f25_b12_0
  have f26_b12_1 := up0 hb26 (by omega) f25_b12_1
  have f26_b12_2 := up0 hb26 (by omega) f25_b12_2
  have f26_b12_3 := up0 hb26 (by omega) f25_b12_3
  have f26_b13_0 := up0 hb26 (by omega) f25_b13_0
  have f26_b13_1 := up0 hb26 (by omega) f25_b13_1
  have f26_b14_0 := up0 hb26 (by omega) f25_b14_0
  have f26_b14_1 := up0 hb26 (by omega) f25_b14_1
  have f26_b15_0 := up0 hb26 (by omega) f25_b15_0
  have f26_b15_1 := up0 hb26 (by omega) f25_b15_1
  have f26_b16_0 := up0 hb26 (by omega) f25_b16_0
  have f26_b16_1 := up0 hb26 (by omega) f25_b16_1
  have f26_b17_0 := up0 hb26 (by omega) f25_b17_0
  have f26_b17_1 := up0 hb26 (by omega) f25_b17_1
  have f26_b17_2 := up0 hb26 (by omega) f25_b17_2
  have f26_b17_3 := up0 hb26 (by omega) f25_b17_3
  have f26_b18_0 := up0 hb26 (by omega) f25_b18_0
  have f26_b18_1 := up0 hb26 (by omega) f25_b18_1
  have f26_b19_0 := up0 hb26 (by omega) f25_b19_0
  have f26_b19_1 := up0 hb26 (by omega) f25_b19_1
  have f26_b19_2 := up0 hb26 (by omega) f25_b19_2
  have f26_b19_3 := up0 hb26 (by omega) f25_b19_3
  have f26_b20_0 := up0 hb26 (by omega) f25_b20_0
  have f26_b20_1 := up0 hb26 (by omega) f25_b20_1
  have hB26 : Below w.heap.size w w26 := (by (try show Below _ _ _); repeat (first | (with_reducible refine Below.setCell ?_ (by first | omega | (simp <;> omega)) _) | (with_reducible refine Below.alloc ?_ (by first | omega | (simp <;> omega)) _) | (with_reducible refine Below.drew ?_) | (with_reducible exact Below.refl _ _) | (with_reducible exact hB25) | (with_reducible refine below_call ?_ hb26 (by first | omega | (simp <;> omega))) | (with_reducible refine below_call ?_ (Drew.below hb26 _) (by first | omega | (simp <;> omega)))))
  clear hb26 hB25 f25_b0_0 f25_b0_1 f25_b1_0 f25_b1_1 f25_b2_0 f25_b2_1 f25_b2_2 f25_b3_0 f25_b3_1 f25_b4_0 f25_b4_1 f25_b5_0 f25_b5_1 f25_b6_0 f25_b6_1 f25_b6_2 f25_b6_3 f25_b7_0 f25_b7_1 f25_b8_0 f25_b8_1 f25_b9_0 f25_b9_1 f25_b10_0 f25_b10_1 f25_b11_0 f25_b11_1 f25_b12_0 f25_b12_1 f25_b12_2 f25_b12_3 f25_b13_0 f25_b13_1 f25_b14_0 f25_b14_1 f25_b15_0 f25_b15_1 f25_b16_0 f25_b16_1 f25_b17_0 f25_b17_1 f25_b17_2 f25_b17_3 f25_b18_0 f25_b18_1 f25_b19_0 f25_b19_1 f25_b19_2 f25_b19_3 f25_b20_0 f25_b20_1
  have l26_0 : w.heap.size < w26.heap.size := by omega
  have l26_1 : w.heap.size + 1 < w26.heap.size := by omega
  have l26_2 : w.heap.size + 1 + 1 < w26.heap.size := by omega
  have l26_3 : w.heap.size + 1 + 1 + 1 < w26.heap.size := by omega
  have l26_4 : w.heap.size + 1 + 1 + 1 + 1 < w26.heap.size := by omega
  have l26_5 : w2.heap.size < w26.heap.size := by omega
  have l26_6 : w2.heap.size + 1 < w26.heap.size := by omega
  have l26_7 : w3.heap.size < w26.heap.size := by omega
  have l26_8 : w4.heap.size < w26.heap.size := by omega
  have l26_9 : w5.heap.size < w26.heap.size := by omega
  have l26_10 : w6.heap.size < w26.heap.size := by omega
  have l26_11 : w10.heap.size < w26.heap.size := by omega
  have l26_12 : w14.heap.size < w26.heap.size := by omega
  have l26_13 : w15.heap.size < w26.heap.size := by omega
  have l26_14 : w16.heap.size < w26.heap.size := by omega
  have l26_15 : w17.heap.size < w26.heap.size := by omega
  have l26_16 : w18.heap.size < w26.heap.size := by omega
  have l26_17 : w22.heap.size < w26.heap.size := by omega
  have l26_18 : w23.heap.size < w26.heap.size := by omega
  have l26_19 : w23.heap.size + 1 < w26.heap.size := by omega
  have l26_20 : w24.heap.size < w26.heap.size := by omega
  clear l25_0 l25_1 l25_2 l25_3 l25_4 l25_5 l25_6 l25_7 l25_8 l25_9 l25_10 l25_11 l25_12 l25_13 l25_14 l25_15 l25_16 l25_17 l25_18 l25_19 l25_20
  go_wp2_with fail
  refine (hk _).mono ?_
  rintro e w27 ⟨rfl, hb27⟩
  have hz27 := hb27.size
  (try simp only [World.size_alloc, World.size_setCell, World.size_drew] at hz27)
  have f27_b0_0 := up0 hb27 (by omega) f26_b0_0
  have f27_b0_1 := up0 hb27 (by omega) f26_b0_1
  have f27_b1_0 := up0 hb27 (by omega) f26_b1_0
  have f27_b1_1 := up0 hb27 (by omega) f26_b1_1
  have f27_b2_0 := up0 hb27 (by omega) f26_b2_0
  have f27_b2_1 := up0 hb27 (by omega) f26_b2_1
  have f27_b2_2 := up0 hb27 (by omega) f26_b2_2
  have f27_b3_0 := up0 hb27 (by omega) f26_b3_0
  have f27_b3_1 := up0 hb27 (by omega) f26_b3_1
  have f27_b4_0 := up0 hb27 (by omega) f26_b4_0
  have f27_b4_1 := up0 hb27 (by omega) f26_b4_1
  have f27_b5_0 := up0 hb27 (by omega) f26_b5_0
  have f27_b5_1 := up0 hb27 (by omega) f26_b5_1
  have f27_b6_0 := up0 hb27 (by omega) f26_b6_0
  have f27_b6_1 := up0 hb27 (by omega) f26_b6_1
  have f27_b6_2 := up0 hb27 (by omega) f26_b6_2
  have f27_b6_3 := up0 hb27 (by omega) f26_b6_3
  have f27_b7_0 := up0 hb27 (by omega) f26_b7_0
  have f27_b7_1 := up0 hb27 (by omega) f26_b7_1
  have f27_b8_0 := up0 hb27 (by omega) f26_b8_0
  have f27_b8_1 := up0 hb27 (by omega) f26_b8_1
  have f27_b9_0 := up0 hb27 (by omega) f26_b9_0
  have f27_b9_1 := up0 hb27 (by omega) f26_b9_1
  have f27_b10_0 := up0 hb27 (by omega) f26_b10_0
  have f27_b10_1 := up0 hb27 (by omega) f26_b10_1
  have f27_b11_0 := up0 hb27 (by omega) f26_b11_0
  have f27_b11_1 := up0 hb27 (by omega) f26_b11_1
  have f27_b12_0 := up0 hb27 (by omega) f26_b12_0
  have f27_b12_1 := up0 hb27 (by omega) f26_b12_1
  have f27_b12_2 := up0 hb27 (by omega) f26_b12_2
  have f27_b12_3 := up0 hb27 (by omega) f26_b12_3
  have f27_b13_0 := up0 hb27 (by omega) f26_b13_0
  have f27_b13_1 := up0 hb27 (by omega) f26_b13_1
  have f27_b14_0 := up0 hb27 (by omega) f26_b14_0
  have f27_b14_1 := up0 hb27 (by omega) f26_b14_1
  have f27_b15_0 := up0 hb27 (by omega) f26_b15_0
  have f27_b15_1 := up0 hb27 (by omega) f26_b15_1
  have f27_b16_0 := up0 hb27 (by omega) f26_b16_0
  have f27_b16_1 := up0 hb27 (by omega) f26_b16_1
  have f27_b17_0 := up0 hb27 (by omega) f26_b17_0
  have f27_b17_1 := up0 hb27 (by omega) f26_b17_1
  have f27_b17_2 := up0 hb27 (by omega) f26_b17_2
  have f27_b17_3 := up0 hb27 (by omega) f26_b17_3
  have f27_b18_0 := up0 hb27 (by omega) f26_b18_0
  have f27_b18_1 := up0 hb27 (by omega) f26_b18_1
  have f27_b19_0 := up0 hb27 (by omega) f26_b19_0
  have f27_b19_1 := up0 hb27 (by omega) f26_b19_1
  have f27_b19_2 := up0 hb27 (by omega) f26_b19_2
  have f27_b19_3 := up0 hb27 (by omega) f26_b19_3
  have f27_b20_0 := up0 hb27 (by omega) f26_b20_0
  have f27_b20_1 := up0 hb27 (by omega) f26_b20_1
  have hB27 : Below w.heap.size w w27 := (by (try show Below _ _ _); repeat (first | (with_reducible refine Below.setCell ?_ (by first | omega | (simp <;> omega)) _) | (with_reducible refine Below.alloc ?_ (by first | omega | (simp <;> omega)) _) | (with_reducible refine Below.drew ?_) | (with_reducible exact Below.refl _ _) | (with_reducible exact hB26) | (with_reducible refine below_call ?_ hb27 (by first | omega | (simp <;> omega))) | (with_reducible refine below_call ?_ (Drew.below hb27 _) (by first | omega | (simp <;> omega)))))
  clear hb27 hB26 f26_b0_0 f26_b0_1 f26_b1_0 f26_b1_1 f26_b2_0 f26_b2_1 f26_b2_2 f26_b3_0 f26_b3_1 f26_b4_0 f26_b4_1 f26_b5_0 f26_b5_1 f26_b6_0 f26_b6_1 f26_b6_2 f26_b6_3 f26_b7_0 f26_b7_1 f26_b8_0 f26_b8_1 f26_b9_0 f26_b9_1 f26_b10_0 f26_b10_1 f26_b11_0 f26_b11_1 f26_b12_0 f26_b12_1 f26_b12_2 f26_b12_3 f26_b13_0 f26_b13_1 f26_b14_0 f26_b14_1 f26_b15_0 f26_b15_1 f26_b16_0 f26_b16_1 f26_b17_0 f26_b17_1 f26_b17_2 f26_b17_3 f26_b18_0 f26_b18_1 f26_b19_0 f26_b19_1 f26_b19_2 f26_b19_3 f26_b20_0 f26_b20_1
  have l27_0 : w.heap.size < w27.heap.size := by omega
  have l27_1 : w.heap.size + 1 < w27.heap.size := by omega
  have l27_2 : w.heap.size + 1 + 1 < w27.heap.size := by omega
  have l27_3 : w.heap.size + 1 + 1 + 1 < w27.heap.size := by omega
  have l27_4 : w.heap.size + 1 + 1 + 1 + 1 < w27.heap.size := by omega
  have l27_5 : w2.heap.size < w27.heap.size := by omega
  have l27_6 : w2.heap.size + 1 < w27.heap.size := by omega
  have l27_7 : w3.heap.size < w27.heap.size := by omega
  have l27_8 : w4.heap.size < w27.heap.size := by omega
  have l27_9 : w5.heap.size < w27.heap.size := by omega
  have l27_10 : w6.heap.size < w27.heap.size := by omega
  have l27_11 : w10.heap.size < w27.heap.size := by omega
  have l27_12 : w14.heap.size < w27.heap.size := by omega
  have l27_13 : w15.heap.size < w27.heap.size := by omega
  have l27_14 : w16.heap.size < w27.heap.size := by omega
  have l27_15 : w17.heap.size < w27.heap.size := by omega
  have l27_16 : w18.heap.size < w27.heap.size := by omega
  have l27_17 : w22.heap.size < w27.heap.size := by omega
  have l27_18 : w23.heap.size < w27.heap.size := by omega
  have l27_19 : w23.heap.size + 1 < w27.heap.size := by omega
  have l27_20 : w24.heap.size < w27.heap.size := by omega
  clear l26_0 l26_1 l26_2 l26_3 l26_4 l26_5 l26_6 l26_7 l26_8 l26_9 l26_10 l26_11 l26_12 l26_13 l26_14 l26_15 l26_16 l26_17 l26_18 l26_19 l26_20
  go_wp2
  go_ret
  exact ⟨rfl, (by (try show Below _ _ _); repeat (first | (with_reducible refine Below.setCell ?_ (by first | omega | (simp <;> omega)) _) | (with_reducible refine Below.alloc ?_ (by first | omega | (simp <;> omega)) _) | (with_reducible refine Below.drew ?_) | (with_reducible exact Below.refl _ _) | (with_reducible exact hB27) | (with_reducible refine below_call ?_ (by assumption) (by first | omega | (simp <;> omega))) | (with_reducible refine below_call ?_ (Drew.below (by assumption) _) (by first | omega | (simp <;> omega)))))⟩

end Go.Proofs.Ytfohdafijfjefaa
