/- spilelaw01.SpanSums: the walk (bada). -/
import Derived.Test.YtfohdafijfjefaaKnown1
import Derived.Test.YtfohdafijfjefaaRefSums2
import Derived.Test.YtfohdafijfjefaaCopy
import Derived.Test.YtfohdafijfjefaaFlat
set_option linter.unusedSimpArgs false
set_option linter.unusedVariables false
namespace Go.Proofs.Ytfohdafijfjefaa
open Go.RowKit Go.Shelf

set_option maxRecDepth 100000 in
set_option maxHeartbeats 4000000 in
theorem sums_bada (A : Option Addr) (n c : Nat) (xs : List R) (a0 a1 b0 b1 : Int) (w : World) (hl : PairList w A n c xs) (h : ¬ 120 < n) (ha : okR ⟨a0, a1⟩ = false) :
    Calls Try.prog 12 #[.slice A n c, .agg #[.int .i64 a0, .int .i64 a1], .agg #[.int .i64 b0, .int .i64 b1]] w fun e w' => e = .returned (.bool true) ∧ Below w.heap.size w w' := by
  obtain ⟨hlen, hle, hmax, hnone, hx, -⟩ := hl
  have hk := fun W => known1_any W
  have hz : ¬ (120 : Int) < (n : Int) := by omega
  have h1 := fun W hx => copy_39 0 A n c xs W hx hlen hnone (by omega)
  have hn : Aside (xs.length = n) := hlen
  have hmn : n ≤ maxLen := by unfold maxLen; omega
  have h2 := fun lo A c W hx => Sum_any lo A n c xs W hx hn hmn
  have h3 := fun lo A c W hx h1 h2 => Meet_any lo A n c xs W hx hn h1 h2
  have h4 := fun lo A c W hx h1 h2 => Hull_any lo A n c xs W hx hn h1 h2
  have h5 := fun lo1 lo2 A1 c1 A2 c2 W hx hy => same_self lo1 lo2 A1 c1 A2 n c2 xs W hx hy hn hmn
  have h6 := fun W hx => refSum_any 0 A n c xs W hx hn hmn
  have h7 := fun W hx => refMeet_any 0 A n c xs W hx hn hmn
  have h8 := fun W hx => refHull_any 0 A n c xs W hx hn hmn
  have h9 := fun W => Less_any a0 a1 b0 b1 W
  have h10 := fun W => refLess_any a0 a1 b0 b1 W
  have h11 := fun W => AtMost_any a0 a1 b0 b1 W
  have hRa := fun W => refRange_any a0 a1 W
  have hRb := fun W => refRange_any b0 b1 W
  generalize sumS xs = s at h2 h6
  generalize foldS MeetJ xs = m at h3 h7
  generalize foldS HullJ xs = u at h4 h8
  generalize lessS ⟨a0, a1⟩ ⟨b0, b1⟩ = d at h9 h10
  obtain ⟨⟨s0, s1⟩, s2⟩ := s
  obtain ⟨⟨m0, m1⟩, m2⟩ := m
  obtain ⟨⟨u0, u1⟩, u2⟩ := u
  obtain ⟨⟨d0, d1⟩, d2⟩ := d
  simp only [RE] at h2 h3 h4 h6 h7 h8 h9 h10
  unfold maxLen at hmax
  rw [ha] at hRa
  rw [show atMostS ⟨a0, a1⟩ ⟨b0, b1⟩ = (false, false, 2) from if_pos (.inl ha)] at h11
  simp only at h11
  clear ha hlen hnone
  go_enter Try.func12, Try.ntmps12
  go_wp2_with fail
  refine (h1 _ (hx.below ((by (try show Below _ _ _); repeat (first | (with_reducible refine Below.setCell ?_ (by first | omega | (simp <;> omega)) _) | (with_reducible refine Below.alloc ?_ (by first | omega | (simp <;> omega)) _) | (with_reducible refine Below.drew ?_) | (with_reducible exact Below.refl _ _) | (with_reducible exact Below.refl _ _) | (with_reducible refine below_call ?_ (by assumption) (by first | omega | (simp <;> omega))) | (with_reducible refine below_call ?_ (Drew.below (by assumption) _) (by first | omega | (simp <;> omega)))))) (Nat.le_refl _))).mono ?_
  rintro e w1 ⟨A2, c2, rfl, hc2, hm2, hy, hb1⟩
  replace hy := hy.mono (Nat.zero_le _)
  have hz1 := hb1.size
  (try simp only [World.size_alloc, World.size_setCell, World.size_drew] at hz1)
  have f1_b0_0 : w1.cell? ⟨w.heap.size, 0, none⟩ = some (.int .i64 a0) := (hb1.cell (p := ⟨w.heap.size, 0, none⟩) (by show w.heap.size < _; first | omega | (simp only [World.size_alloc, World.size_setCell, World.size_drew]; omega))).trans (by simp [go_sem, cell_set])
  have f1_b0_1 : w1.cell? ⟨w.heap.size, 1, none⟩ = some (.int .i64 a1) := (hb1.cell (p := ⟨w.heap.size, 1, none⟩) (by show w.heap.size < _; first | omega | (simp only [World.size_alloc, World.size_setCell, World.size_drew]; omega))).trans (by simp [go_sem, cell_set])
  have f1_b1_0 : w1.cell? ⟨w.heap.size + 1, 0, none⟩ = some (.int .i64 b0) := (hb1.cell (p := ⟨w.heap.size + 1, 0, none⟩) (by show w.heap.size + 1 < _; first | omega | (simp only [World.size_alloc, World.size_setCell, World.size_drew]; omega))).trans (by simp [go_sem, cell_set])
  have f1_b1_1 : w1.cell? ⟨w.heap.size + 1, 1, none⟩ = some (.int .i64 b1) := (hb1.cell (p := ⟨w.heap.size + 1, 1, none⟩) (by show w.heap.size + 1 < _; first | omega | (simp only [World.size_alloc, World.size_setCell, World.size_drew]; omega))).trans (by simp [go_sem, cell_set])
  have hB1 : Below w.heap.size w w1 := (by (try show Below _ _ _); repeat (first | (with_reducible refine Below.setCell ?_ (by first | omega | (simp <;> omega)) _) | (with_reducible refine Below.alloc ?_ (by first | omega | (simp <;> omega)) _) | (with_reducible refine Below.drew ?_) | (with_reducible exact Below.refl _ _) | (with_reducible exact Below.refl _ _) | (with_reducible refine below_call ?_ hb1 (by first | omega | (simp <;> omega))) | (with_reducible refine below_call ?_ (Drew.below hb1 _) (by first | omega | (simp <;> omega)))))
  clear hb1 
  have l1_0 : w.heap.size < w1.heap.size := by omega
  have l1_1 : w.heap.size + 1 < w1.heap.size := by omega
  go_wp2_with fail
  refine (h2 _ _ _ _ (hy.below ((by (try show Below _ _ _); repeat (first | (with_reducible refine Below.setCell ?_ (by first | omega | (simp <;> omega)) _) | (with_reducible refine Below.alloc ?_ (by first | omega | (simp <;> omega)) _) | (with_reducible refine Below.drew ?_) | (with_reducible exact Below.refl _ _) | (with_reducible exact Below.refl _ _) | (with_reducible refine below_call ?_ (by assumption) (by first | omega | (simp <;> omega))) | (with_reducible refine below_call ?_ (Drew.below (by assumption) _) (by first | omega | (simp <;> omega)))))) (Nat.le_refl _))).mono ?_
  rintro e w2 ⟨rfl, hb2⟩
  have hz2 := hb2.size
  (try simp only [World.size_alloc, World.size_setCell, World.size_drew] at hz2)
  have hB1_2 : Below w1.heap.size w1 w2 := (by (try show Below _ _ _); repeat (first | (with_reducible refine Below.setCell ?_ (by first | omega | (simp <;> omega)) _) | (with_reducible refine Below.alloc ?_ (by first | omega | (simp <;> omega)) _) | (with_reducible refine Below.drew ?_) | (with_reducible exact Below.refl _ _) | (with_reducible exact Below.refl _ _) | (with_reducible refine below_call ?_ hb2 (by first | omega | (simp <;> omega))) | (with_reducible refine below_call ?_ (Drew.below hb2 _) (by first | omega | (simp <;> omega)))))
  have f2_b0_0 := up0 hb2 (by omega) f1_b0_0
  have f2_b0_1 := up0 hb2 (by omega) f1_b0_1
  have f2_b1_0 := up0 hb2 (by omega) f1_b1_0
  have f2_b1_1 := up0 hb2 (by omega) f1_b1_1
  have hB2 : Below w.heap.size w w2 := (by (try show Below _ _ _); repeat (first | (with_reducible refine Below.setCell ?_ (by first | omega | (simp <;> omega)) _) | (with_reducible refine Below.alloc ?_ (by first | omega | (simp <;> omega)) _) | (with_reducible refine Below.drew ?_) | (with_reducible exact Below.refl _ _) | (with_reducible exact hB1) | (with_reducible refine below_call ?_ hb2 (by first | omega | (simp <;> omega))) | (with_reducible refine below_call ?_ (Drew.below hb2 _) (by first | omega | (simp <;> omega)))))
  clear hb2 hB1 f1_b0_0 f1_b0_1 f1_b1_0 f1_b1_1
  have l2_0 : w.heap.size < w2.heap.size := by omega
  have l2_1 : w.heap.size + 1 < w2.heap.size := by omega
  clear l1_0 l1_1
  go_wp2_with fail
  refine (h3 _ _ _ _ (hy.below ((by (try show Below _ _ _); repeat (first | (with_reducible refine Below.setCell ?_ (by first | omega | (simp <;> omega)) _) | (with_reducible refine Below.alloc ?_ (by first | omega | (simp <;> omega)) _) | (with_reducible refine Below.drew ?_) | (with_reducible exact Below.refl _ _) | (with_reducible exact hB1_2) | (with_reducible refine below_call ?_ (by assumption) (by first | omega | (simp <;> omega))) | (with_reducible refine below_call ?_ (Drew.below (by assumption) _) (by first | omega | (simp <;> omega)))))) (Nat.le_refl _)) hc2 hm2).mono ?_
  rintro e w3 ⟨rfl, hb3⟩
  have hz3 := hb3.size
  (try simp only [World.size_alloc, World.size_setCell, World.size_drew] at hz3)
  have hB1_3 : Below w1.heap.size w1 w3 := (by (try show Below _ _ _); repeat (first | (with_reducible refine Below.setCell ?_ (by first | omega | (simp <;> omega)) _) | (with_reducible refine Below.alloc ?_ (by first | omega | (simp <;> omega)) _) | (with_reducible refine Below.drew ?_) | (with_reducible exact Below.refl _ _) | (with_reducible exact hB1_2) | (with_reducible refine below_call ?_ hb3 (by first | omega | (simp <;> omega))) | (with_reducible refine below_call ?_ (Drew.below hb3 _) (by first | omega | (simp <;> omega)))))
  clear hB1_2
  have f3_b0_0 := up1 hb3 (by omega) f2_b0_0
  have f3_b0_1 := up1 hb3 (by omega) f2_b0_1
  have f3_b1_0 := up1 hb3 (by omega) f2_b1_0
  have f3_b1_1 := up1 hb3 (by omega) f2_b1_1
  have f3_b2_0 : w3.cell? ⟨w2.heap.size, 0, none⟩ = some (.int .i64 s0) := (hb3.cell (p := ⟨w2.heap.size, 0, none⟩) (by show w2.heap.size < _; first | omega | (simp only [World.size_alloc, World.size_setCell, World.size_drew]; omega))).trans (by simp [go_sem, cell_set])
  have f3_b2_1 : w3.cell? ⟨w2.heap.size, 1, none⟩ = some (.int .i64 s1) := (hb3.cell (p := ⟨w2.heap.size, 1, none⟩) (by show w2.heap.size < _; first | omega | (simp only [World.size_alloc, World.size_setCell, World.size_drew]; omega))).trans (by simp [go_sem, cell_set])
  have hB3 : Below w.heap.size w w3 := (by (try show Below _ _ _); repeat (first | (with_reducible refine Below.setCell ?_ (by first | omega | (simp <;> omega)) _) | (with_reducible refine Below.alloc ?_ (by first | omega | (simp <;> omega)) _) | (with_reducible refine Below.drew ?_) | (with_reducible exact Below.refl _ _) | (with_reducible exact hB2) | (with_reducible refine below_call ?_ hb3 (by first | omega | (simp <;> omega))) | (with_reducible refine below_call ?_ (Drew.below hb3 _) (by first | omega | (simp <;> omega)))))
  clear hb3 hB2 f2_b0_0 f2_b0_1 f2_b1_0 f2_b1_1
  have l3_0 : w.heap.size < w3.heap.size := by omega
  have l3_1 : w.heap.size + 1 < w3.heap.size := by omega
  have l3_2 : w2.heap.size < w3.heap.size := by omega
  clear l2_0 l2_1
  go_wp2_with fail
  refine (h4 _ _ _ _ (hy.below ((by (try show Below _ _ _); repeat (first | (with_reducible refine Below.setCell ?_ (by first | omega | (simp <;> omega)) _) | (with_reducible refine Below.alloc ?_ (by first | omega | (simp <;> omega)) _) | (with_reducible refine Below.drew ?_) | (with_reducible exact Below.refl _ _) | (with_reducible exact hB1_3) | (with_reducible refine below_call ?_ (by assumption) (by first | omega | (simp <;> omega))) | (with_reducible refine below_call ?_ (Drew.below (by assumption) _) (by first | omega | (simp <;> omega)))))) (Nat.le_refl _)) hc2 hm2).mono ?_
  rintro e w4 ⟨rfl, hb4⟩
  have hz4 := hb4.size
  (try simp only [World.size_alloc, World.size_setCell, World.size_drew] at hz4)
  have hB1_4 : Below w1.heap.size w1 w4 := (by (try show Below _ _ _); repeat (first | (with_reducible refine Below.setCell ?_ (by first | omega | (simp <;> omega)) _) | (with_reducible refine Below.alloc ?_ (by first | omega | (simp <;> omega)) _) | (with_reducible refine Below.drew ?_) | (with_reducible exact Below.refl _ _) | (with_reducible exact hB1_3) | (with_reducible refine below_call ?_ hb4 (by first | omega | (simp <;> omega))) | (with_reducible refine below_call ?_ (Drew.below hb4 _) (by first | omega | (simp <;> omega)))))
  clear hB1_3
  have f4_b0_0 := up1 hb4 (by omega) f3_b0_0
  have f4_b0_1 := up1 hb4 (by omega) f3_b0_1
  have f4_b1_0 := up1 hb4 (by omega) f3_b1_0
  have f4_b1_1 := up1 hb4 (by omega) f3_b1_1
  have f4_b2_0 := up1 hb4 (by omega) f3_b2_0
  have f4_b2_1 := up1 hb4 (by omega) f3_b2_1
  have f4_b3_0 : w4.cell? ⟨w3.heap.size, 0, none⟩ = some (.int .i64 m0) := (hb4.cell (p := ⟨w3.heap.size, 0, none⟩) (by show w3.heap.size < _; first | omega | (simp only [World.size_alloc, World.size_setCell, World.size_drew]; omega))).trans (by simp [go_sem, cell_set])
  have f4_b3_1 : w4.cell? ⟨w3.heap.size, 1, none⟩ = some (.int .i64 m1) := (hb4.cell (p := ⟨w3.heap.size, 1, none⟩) (by show w3.heap.size < _; first | omega | (simp only [World.size_alloc, World.size_setCell, World.size_drew]; omega))).trans (by simp [go_sem, cell_set])
  have hB4 : Below w.heap.size w w4 := (by (try show Below _ _ _); repeat (first | (with_reducible refine Below.setCell ?_ (by first | omega | (simp <;> omega)) _) | (with_reducible refine Below.alloc ?_ (by first | omega | (simp <;> omega)) _) | (with_reducible refine Below.drew ?_) | (with_reducible exact Below.refl _ _) | (with_reducible exact hB3) | (with_reducible refine below_call ?_ hb4 (by first | omega | (simp <;> omega))) | (with_reducible refine below_call ?_ (Drew.below hb4 _) (by first | omega | (simp <;> omega)))))
  clear hb4 hB3 f3_b0_0 f3_b0_1 f3_b1_0 f3_b1_1 f3_b2_0 f3_b2_1
  have l4_0 : w.heap.size < w4.heap.size := by omega
  have l4_1 : w.heap.size + 1 < w4.heap.size := by omega
  have l4_2 : w2.heap.size < w4.heap.size := by omega
  have l4_3 : w3.heap.size < w4.heap.size := by omega
  clear l3_0 l3_1 l3_2
  go_wp2_with fail
  refine (h5 _ _ _ _ _ _ _ (hy.below ((by (try show Below _ _ _); repeat (first | (with_reducible refine Below.setCell ?_ (by first | omega | (simp <;> omega)) _) | (with_reducible refine Below.alloc ?_ (by first | omega | (simp <;> omega)) _) | (with_reducible refine Below.drew ?_) | (with_reducible exact Below.refl _ _) | (with_reducible exact hB1_4) | (with_reducible refine below_call ?_ (by assumption) (by first | omega | (simp <;> omega))) | (with_reducible refine below_call ?_ (Drew.below (by assumption) _) (by first | omega | (simp <;> omega)))))) (Nat.le_refl _)) (hx.below ((by (try show Below _ _ _); repeat (first | (with_reducible refine Below.setCell ?_ (by first | omega | (simp <;> omega)) _) | (with_reducible refine Below.alloc ?_ (by first | omega | (simp <;> omega)) _) | (with_reducible refine Below.drew ?_) | (with_reducible exact Below.refl _ _) | (with_reducible exact hB4) | (with_reducible refine below_call ?_ (by assumption) (by first | omega | (simp <;> omega))) | (with_reducible refine below_call ?_ (Drew.below (by assumption) _) (by first | omega | (simp <;> omega)))))) (Nat.le_refl _))).mono ?_
  rintro e w5 ⟨rfl, hd5⟩
  have hb5 := drew_all hd5
  clear hd5
  have hz5 := hb5.size
  (try simp only [World.size_alloc, World.size_setCell, World.size_drew] at hz5)
  have hB1_5 : Below w1.heap.size w1 w5 := (by (try show Below _ _ _); repeat (first | (with_reducible refine Below.setCell ?_ (by first | omega | (simp <;> omega)) _) | (with_reducible refine Below.alloc ?_ (by first | omega | (simp <;> omega)) _) | (with_reducible refine Below.drew ?_) | (with_reducible exact Below.refl _ _) | (with_reducible exact hB1_4) | (with_reducible refine below_call ?_ hb5 (by first | omega | (simp <;> omega))) | (with_reducible refine below_call ?_ (Drew.below hb5 _) (by first | omega | (simp <;> omega)))))
  clear hB1_4
  have f5_b0_0 := up1 hb5 (by omega) f4_b0_0
  have f5_b0_1 := up1 hb5 (by omega) f4_b0_1
  have f5_b1_0 := up1 hb5 (by omega) f4_b1_0
  have f5_b1_1 := up1 hb5 (by omega) f4_b1_1
  have f5_b2_0 := up1 hb5 (by omega) f4_b2_0
  have f5_b2_1 := up1 hb5 (by omega) f4_b2_1
  have f5_b3_0 := up1 hb5 (by omega) f4_b3_0
  have f5_b3_1 := up1 hb5 (by omega) f4_b3_1
  have f5_b4_0 : w5.cell? ⟨w4.heap.size, 0, none⟩ = some (.int .i64 u0) := (hb5.cell (p := ⟨w4.heap.size, 0, none⟩) (by show w4.heap.size < _; first | omega | (simp only [World.size_alloc, World.size_setCell, World.size_drew]; omega))).trans (by simp [go_sem, cell_set])
  have f5_b4_1 : w5.cell? ⟨w4.heap.size, 1, none⟩ = some (.int .i64 u1) := (hb5.cell (p := ⟨w4.heap.size, 1, none⟩) (by show w4.heap.size < _; first | omega | (simp only [World.size_alloc, World.size_setCell, World.size_drew]; omega))).trans (by simp [go_sem, cell_set])
  have hB5 : Below w.heap.size w w5 := (by (try show Below _ _ _); repeat (first | (with_reducible refine Below.setCell ?_ (by first | omega | (simp <;> omega)) _) | (with_reducible refine Below.alloc ?_ (by first | omega | (simp <;> omega)) _) | (with_reducible refine Below.drew ?_) | (with_reducible exact Below.refl _ _) | (with_reducible exact hB4) | (with_reducible refine below_call ?_ hb5 (by first | omega | (simp <;> omega))) | (with_reducible refine below_call ?_ (Drew.below hb5 _) (by first | omega | (simp <;> omega)))))
  clear hb5 hB4 f4_b0_0 f4_b0_1 f4_b1_0 f4_b1_1 f4_b2_0 f4_b2_1 f4_b3_0 f4_b3_1
  have l5_0 : w.heap.size < w5.heap.size := by omega
  have l5_1 : w.heap.size + 1 < w5.heap.size := by omega
  have l5_2 : w2.heap.size < w5.heap.size := by omega
  have l5_3 : w3.heap.size < w5.heap.size := by omega
  have l5_4 : w4.heap.size < w5.heap.size := by omega
  clear l4_0 l4_1 l4_2 l4_3
  go_wp2_with fail
  refine (h6 _ (hx.below ((by (try show Below _ _ _); repeat (first | (with_reducible refine Below.setCell ?_ (by first | omega | (simp <;> omega)) _) | (with_reducible refine Below.alloc ?_ (by first | omega | (simp <;> omega)) _) | (with_reducible refine Below.drew ?_) | (with_reducible exact Below.refl _ _) | (with_reducible exact hB5) | (with_reducible refine below_call ?_ (by assumption) (by first | omega | (simp <;> omega))) | (with_reducible refine below_call ?_ (Drew.below (by assumption) _) (by first | omega | (simp <;> omega)))))) (Nat.le_refl _))).mono ?_
  rintro e w6 ⟨rfl, hb6⟩
  have hz6 := hb6.size
  (try simp only [World.size_alloc, World.size_setCell, World.size_drew] at hz6)
  have hB1_6 : Below w1.heap.size w1 w6 := (by (try show Below _ _ _); repeat (first | (with_reducible refine Below.setCell ?_ (by first | omega | (simp <;> omega)) _) | (with_reducible refine Below.alloc ?_ (by first | omega | (simp <;> omega)) _) | (with_reducible refine Below.drew ?_) | (with_reducible exact Below.refl _ _) | (with_reducible exact hB1_5) | (with_reducible refine below_call ?_ hb6 (by first | omega | (simp <;> omega))) | (with_reducible refine below_call ?_ (Drew.below hb6 _) (by first | omega | (simp <;> omega)))))
  clear hB1_5
  have f6_b0_0 := up0 hb6 (by omega) f5_b0_0
  have f6_b0_1 := up0 hb6 (by omega) f5_b0_1
  have f6_b1_0 := up0 hb6 (by omega) f5_b1_0
  have f6_b1_1 := up0 hb6 (by omega) f5_b1_1
  have f6_b2_0 := up0 hb6 (by omega) f5_b2_0
  have f6_b2_1 := up0 hb6 (by omega) f5_b2_1
  have f6_b3_0 := up0 hb6 (by omega) f5_b3_0
  have f6_b3_1 := up0 hb6 (by omega) f5_b3_1
  have f6_b4_0 := up0 hb6 (by omega) f5_b4_0
  have f6_b4_1 := up0 hb6 (by omega) f5_b4_1
  have hB6 : Below w.heap.size w w6 := (by (try show Below _ _ _); repeat (first | (with_reducible refine Below.setCell ?_ (by first | omega | (simp <;> omega)) _) | (with_reducible refine Below.alloc ?_ (by first | omega | (simp <;> omega)) _) | (with_reducible refine Below.drew ?_) | (with_reducible exact Below.refl _ _) | (with_reducible exact hB5) | (with_reducible refine below_call ?_ hb6 (by first | omega | (simp <;> omega))) | (with_reducible refine below_call ?_ (Drew.below hb6 _) (by first | omega | (simp <;> omega)))))
  clear hb6 hB5 f5_b0_0 f5_b0_1 f5_b1_0 f5_b1_1 f5_b2_0 f5_b2_1 f5_b3_0 f5_b3_1 f5_b4_0 f5_b4_1
  have l6_0 : w.heap.size < w6.heap.size := by omega
  have l6_1 : w.heap.size + 1 < w6.heap.size := by omega
  have l6_2 : w2.heap.size < w6.heap.size := by omega
  have l6_3 : w3.heap.size < w6.heap.size := by omega
  have l6_4 : w4.heap.size < w6.heap.size := by omega
  clear l5_0 l5_1 l5_2 l5_3 l5_4
  go_wp2_with fail
  refine (h7 _ (hx.below ((by (try show Below _ _ _); repeat (first | (with_reducible refine Below.setCell ?_ (by first | omega | (simp <;> omega)) _) | (with_reducible refine Below.alloc ?_ (by first | omega | (simp <;> omega)) _) | (with_reducible refine Below.drew ?_) | (with_reducible exact Below.refl _ _) | (with_reducible exact hB6) | (with_reducible refine below_call ?_ (by assumption) (by first | omega | (simp <;> omega))) | (with_reducible refine below_call ?_ (Drew.below (by assumption) _) (by first | omega | (simp <;> omega)))))) (Nat.le_refl _))).mono ?_
  rintro e w7 ⟨rfl, hb7⟩
  have hz7 := hb7.size
  (try simp only [World.size_alloc, World.size_setCell, World.size_drew] at hz7)
  have hB1_7 : Below w1.heap.size w1 w7 := (by (try show Below _ _ _); repeat (first | (with_reducible refine Below.setCell ?_ (by first | omega | (simp <;> omega)) _) | (with_reducible refine Below.alloc ?_ (by first | omega | (simp <;> omega)) _) | (with_reducible refine Below.drew ?_) | (with_reducible exact Below.refl _ _) | (with_reducible exact hB1_6) | (with_reducible refine below_call ?_ hb7 (by first | omega | (simp <;> omega))) | (with_reducible refine below_call ?_ (Drew.below hb7 _) (by first | omega | (simp <;> omega)))))
  clear hB1_6
  have f7_b0_0 := up1 hb7 (by omega) f6_b0_0
  have f7_b0_1 := up1 hb7 (by omega) f6_b0_1
  have f7_b1_0 := up1 hb7 (by omega) f6_b1_0
  have f7_b1_1 := up1 hb7 (by omega) f6_b1_1
  have f7_b2_0 := up1 hb7 (by omega) f6_b2_0
  have f7_b2_1 := up1 hb7 (by omega) f6_b2_1
  have f7_b3_0 := up1 hb7 (by omega) f6_b3_0
  have f7_b3_1 := up1 hb7 (by omega) f6_b3_1
  have f7_b4_0 := up1 hb7 (by omega) f6_b4_0
  have f7_b4_1 := up1 hb7 (by omega) f6_b4_1
  have f7_b5_0 : w7.cell? ⟨w6.heap.size, 0, none⟩ = some (.int .i64 s0) := (hb7.cell (p := ⟨w6.heap.size, 0, none⟩) (by show w6.heap.size < _; first | omega | (simp only [World.size_alloc, World.size_setCell, World.size_drew]; omega))).trans (by simp [go_sem, cell_set])
  have f7_b5_1 : w7.cell? ⟨w6.heap.size, 1, none⟩ = some (.int .i64 s1) := (hb7.cell (p := ⟨w6.heap.size, 1, none⟩) (by show w6.heap.size < _; first | omega | (simp only [World.size_alloc, World.size_setCell, World.size_drew]; omega))).trans (by simp [go_sem, cell_set])
  have g7_b5_0 : w7.frozen? ⟨w6.heap.size, 0, none⟩ = false := (hb7.frozen (p := ⟨w6.heap.size, 0, none⟩) (by show w6.heap.size < _; first | omega | (simp only [World.size_alloc, World.size_setCell, World.size_drew]; omega))).trans (by simp [go_sem, l6_0, l6_1, l6_2, l6_3, l6_4])
  have g7_b5_1 : w7.frozen? ⟨w6.heap.size, 1, none⟩ = false := (hb7.frozen (p := ⟨w6.heap.size, 1, none⟩) (by show w6.heap.size < _; first | omega | (simp only [World.size_alloc, World.size_setCell, World.size_drew]; omega))).trans (by simp [go_sem, l6_0, l6_1, l6_2, l6_3, l6_4])
  have hB7 : Below w.heap.size w w7 := (by (try show Below _ _ _); repeat (first | (with_reducible refine Below.setCell ?_ (by first | omega | (simp <;> omega)) _) | (with_reducible refine Below.alloc ?_ (by first | omega | (simp <;> omega)) _) | (with_reducible refine Below.drew ?_) | (with_reducible exact Below.refl _ _) | (with_reducible exact hB6) | (with_reducible refine below_call ?_ hb7 (by first | omega | (simp <;> omega))) | (with_reducible refine below_call ?_ (Drew.below hb7 _) (by first | omega | (simp <;> omega)))))
  clear hb7 hB6 f6_b0_0 f6_b0_1 f6_b1_0 f6_b1_1 f6_b2_0 f6_b2_1 f6_b3_0 f6_b3_1 f6_b4_0 f6_b4_1
  have l7_0 : w.heap.size < w7.heap.size := by omega
  have l7_1 : w.heap.size + 1 < w7.heap.size := by omega
  have l7_2 : w2.heap.size < w7.heap.size := by omega
  have l7_3 : w3.heap.size < w7.heap.size := by omega
  have l7_4 : w4.heap.size < w7.heap.size := by omega
  have l7_5 : w6.heap.size < w7.heap.size := by omega
  clear l6_0 l6_1 l6_2 l6_3 l6_4
  go_wp2_with fail
  refine (h8 _ (hx.below ((by (try show Below _ _ _); repeat (first | (with_reducible refine Below.setCell ?_ (by first | omega | (simp <;> omega)) _) | (with_reducible refine Below.alloc ?_ (by first | omega | (simp <;> omega)) _) | (with_reducible refine Below.drew ?_) | (with_reducible exact Below.refl _ _) | (with_reducible exact hB7) | (with_reducible refine below_call ?_ (by assumption) (by first | omega | (simp <;> omega))) | (with_reducible refine below_call ?_ (Drew.below (by assumption) _) (by first | omega | (simp <;> omega)))))) (Nat.le_refl _))).mono ?_
  rintro e w8 ⟨rfl, hb8⟩
  have hz8 := hb8.size
  (try simp only [World.size_alloc, World.size_setCell, World.size_drew] at hz8)
  have hB1_8 : Below w1.heap.size w1 w8 := (by (try show Below _ _ _); repeat (first | (with_reducible refine Below.setCell ?_ (by first | omega | (simp <;> omega)) _) | (with_reducible refine Below.alloc ?_ (by first | omega | (simp <;> omega)) _) | (with_reducible refine Below.drew ?_) | (with_reducible exact Below.refl _ _) | (with_reducible exact hB1_7) | (with_reducible refine below_call ?_ hb8 (by first | omega | (simp <;> omega))) | (with_reducible refine below_call ?_ (Drew.below hb8 _) (by first | omega | (simp <;> omega)))))
  clear hB1_7
  have f8_b0_0 := up1 hb8 (by omega) f7_b0_0
  have f8_b0_1 := up1 hb8 (by omega) f7_b0_1
  have f8_b1_0 := up1 hb8 (by omega) f7_b1_0
  have f8_b1_1 := up1 hb8 (by omega) f7_b1_1
  have f8_b2_0 := up1 hb8 (by omega) f7_b2_0
  have f8_b2_1 := up1 hb8 (by omega) f7_b2_1
  have f8_b3_0 := up1 hb8 (by omega) f7_b3_0
  have f8_b3_1 := up1 hb8 (by omega) f7_b3_1
  have f8_b4_0 := up1 hb8 (by omega) f7_b4_0
  have f8_b4_1 := up1 hb8 (by omega) f7_b4_1
  have f8_b5_0 := up1 hb8 (by omega) f7_b5_0
  have f8_b5_1 := up1 hb8 (by omega) f7_b5_1
  have f8_b6_0 : w8.cell? ⟨w7.heap.size, 0, none⟩ = some (.int .i64 m0) := (hb8.cell (p := ⟨w7.heap.size, 0, none⟩) (by show w7.heap.size < _; first | omega | (simp only [World.size_alloc, World.size_setCell, World.size_drew]; omega))).trans (by simp [go_sem, cell_set])
  have f8_b6_1 : w8.cell? ⟨w7.heap.size, 1, none⟩ = some (.int .i64 m1) := (hb8.cell (p := ⟨w7.heap.size, 1, none⟩) (by show w7.heap.size < _; first | omega | (simp only [World.size_alloc, World.size_setCell, World.size_drew]; omega))).trans (by simp [go_sem, cell_set])
  have g8_b5_0 : w8.frozen? ⟨w6.heap.size, 0, none⟩ = false := (hb8.frozen (p := ⟨w6.heap.size, 0, none⟩) (by show w6.heap.size < _; first | omega | (simp only [World.size_alloc, World.size_setCell, World.size_drew]; omega))).trans (by simp [go_sem, g7_b5_0, l7_0, l7_1, l7_2, l7_3, l7_4, l7_5])
  clear g7_b5_0
  have g8_b5_1 : w8.frozen? ⟨w6.heap.size, 1, none⟩ = false := (hb8.frozen (p := ⟨w6.heap.size, 1, none⟩) (by show w6.heap.size < _; first | omega | (simp only [World.size_alloc, World.size_setCell, World.size_drew]; omega))).trans (by simp [go_sem, g7_b5_1, l7_0, l7_1, l7_2, l7_3, l7_4, l7_5])
  clear g7_b5_1
  have hB8 : Below w.heap.size w w8 := (by (try show Below _ _ _); repeat (first | (with_reducible refine Below.setCell ?_ (by first | omega | (simp <;> omega)) _) | (with_reducible refine Below.alloc ?_ (by first | omega | (simp <;> omega)) _) | (with_reducible refine Below.drew ?_) | (with_reducible exact Below.refl _ _) | (with_reducible exact hB7) | (with_reducible refine below_call ?_ hb8 (by first | omega | (simp <;> omega))) | (with_reducible refine below_call ?_ (Drew.below hb8 _) (by first | omega | (simp <;> omega)))))
  clear hb8 hB7 f7_b0_0 f7_b0_1 f7_b1_0 f7_b1_1 f7_b2_0 f7_b2_1 f7_b3_0 f7_b3_1 f7_b4_0 f7_b4_1 f7_b5_0 f7_b5_1
  have l8_0 : w.heap.size < w8.heap.size := by omega
  have l8_1 : w.heap.size + 1 < w8.heap.size := by omega
  have l8_2 : w2.heap.size < w8.heap.size := by omega
  have l8_3 : w3.heap.size < w8.heap.size := by omega
  have l8_4 : w4.heap.size < w8.heap.size := by omega
  have l8_5 : w6.heap.size < w8.heap.size := by omega
  have l8_6 : w7.heap.size < w8.heap.size := by omega
  clear l7_0 l7_1 l7_2 l7_3 l7_4 l7_5
  go_wp2_with fail
  refine (h9 _).mono ?_
  rintro e w9 ⟨rfl, hb9⟩
  have hz9 := hb9.size
  (try simp only [World.size_alloc, World.size_setCell, World.size_drew] at hz9)
  have hB1_9 : Below w1.heap.size w1 w9 := (by (try show Below _ _ _); repeat (first | (with_reducible refine Below.setCell ?_ (by first | omega | (simp <;> omega)) _) | (with_reducible refine Below.alloc ?_ (by first | omega | (simp <;> omega)) _) | (with_reducible refine Below.drew ?_) | (with_reducible exact Below.refl _ _) | (with_reducible exact hB1_8) | (with_reducible refine below_call ?_ hb9 (by first | omega | (simp <;> omega))) | (with_reducible refine below_call ?_ (Drew.below hb9 _) (by first | omega | (simp <;> omega)))))
  clear hB1_8
  have f9_b0_0 := up1 hb9 (by omega) f8_b0_0
  have f9_b0_1 := up1 hb9 (by omega) f8_b0_1
  have f9_b1_0 := up1 hb9 (by omega) f8_b1_0
  have f9_b1_1 := up1 hb9 (by omega) f8_b1_1
  have f9_b2_0 := up1 hb9 (by omega) f8_b2_0
  have f9_b2_1 := up1 hb9 (by omega) f8_b2_1
  have f9_b3_0 := up1 hb9 (by omega) f8_b3_0
  have f9_b3_1 := up1 hb9 (by omega) f8_b3_1
  have f9_b4_0 := up1 hb9 (by omega) f8_b4_0
  have f9_b4_1 := up1 hb9 (by omega) f8_b4_1
  have f9_b5_0 := up1 hb9 (by omega) f8_b5_0
  have f9_b5_1 := up1 hb9 (by omega) f8_b5_1
  have f9_b6_0 := up1 hb9 (by omega) f8_b6_0
  have f9_b6_1 := up1 hb9 (by omega) f8_b6_1
  have f9_b7_0 : w9.cell? ⟨w8.heap.size, 0, none⟩ = some (.int .i64 u0) := (hb9.cell (p := ⟨w8.heap.size, 0, none⟩) (by show w8.heap.size < _; first | omega | (simp only [World.size_alloc, World.size_setCell, World.size_drew]; omega))).trans (by simp [go_sem, cell_set])
  have f9_b7_1 : w9.cell? ⟨w8.heap.size, 1, none⟩ = some (.int .i64 u1) := (hb9.cell (p := ⟨w8.heap.size, 1, none⟩) (by show w8.heap.size < _; first | omega | (simp only [World.size_alloc, World.size_setCell, World.size_drew]; omega))).trans (by simp [go_sem, cell_set])
  have g9_b5_0 : w9.frozen? ⟨w6.heap.size, 0, none⟩ = false := (hb9.frozen (p := ⟨w6.heap.size, 0, none⟩) (by show w6.heap.size < _; first | omega | (simp only [World.size_alloc, World.size_setCell, World.size_drew]; omega))).trans (by simp [go_sem, g8_b5_0, l8_0, l8_1, l8_2, l8_3, l8_4, l8_5, l8_6])
  clear g8_b5_0
  have g9_b5_1 : w9.frozen? ⟨w6.heap.size, 1, none⟩ = false := (hb9.frozen (p := ⟨w6.heap.size, 1, none⟩) (by show w6.heap.size < _; first | omega | (simp only [World.size_alloc, World.size_setCell, World.size_drew]; omega))).trans (by simp [go_sem, g8_b5_1, l8_0, l8_1, l8_2, l8_3, l8_4, l8_5, l8_6])
  clear g8_b5_1
  have hB9 : Below w.heap.size w w9 := (by (try show Below _ _ _); repeat (first | (with_reducible refine Below.setCell ?_ (by first | omega | (simp <;> omega)) _) | (with_reducible refine Below.alloc ?_ (by first | omega | (simp <;> omega)) _) | (with_reducible refine Below.drew ?_) | (with_reducible exact Below.refl _ _) | (with_reducible exact hB8) | (with_reducible refine below_call ?_ hb9 (by first | omega | (simp <;> omega))) | (with_reducible refine below_call ?_ (Drew.below hb9 _) (by first | omega | (simp <;> omega)))))
  clear hb9 hB8 f8_b0_0 f8_b0_1 f8_b1_0 f8_b1_1 f8_b2_0 f8_b2_1 f8_b3_0 f8_b3_1 f8_b4_0 f8_b4_1 f8_b5_0 f8_b5_1 f8_b6_0 f8_b6_1
  have l9_0 : w.heap.size < w9.heap.size := by omega
  have l9_1 : w.heap.size + 1 < w9.heap.size := by omega
  have l9_2 : w2.heap.size < w9.heap.size := by omega
  have l9_3 : w3.heap.size < w9.heap.size := by omega
  have l9_4 : w4.heap.size < w9.heap.size := by omega
  have l9_5 : w6.heap.size < w9.heap.size := by omega
  have l9_6 : w7.heap.size < w9.heap.size := by omega
  have l9_7 : w8.heap.size < w9.heap.size := by omega
  clear l8_0 l8_1 l8_2 l8_3 l8_4 l8_5 l8_6
  go_wp2_with fail
  refine (h10 _).mono ?_
  rintro e w10 ⟨rfl, hb10⟩
  have hz10 := hb10.size
  (try simp only [World.size_alloc, World.size_setCell, World.size_drew] at hz10)
  have hB1_10 : Below w1.heap.size w1 w10 := (by (try show Below _ _ _); repeat (first | (with_reducible refine Below.setCell ?_ (by first | omega | (simp <;> omega)) _) | (with_reducible refine Below.alloc ?_ (by first | omega | (simp <;> omega)) _) | (with_reducible refine Below.drew ?_) | (with_reducible exact Below.refl _ _) | (with_reducible exact hB1_9) | (with_reducible refine below_call ?_ hb10 (by first | omega | (simp <;> omega))) | (with_reducible refine below_call ?_ (Drew.below hb10 _) (by first | omega | (simp <;> omega)))))
  clear hB1_9
  have f10_b0_0 := up1 hb10 (by omega) f9_b0_0
  have f10_b0_1 := up1 hb10 (by omega) f9_b0_1
  have f10_b1_0 := up1 hb10 (by omega) f9_b1_0
  have f10_b1_1 := up1 hb10 (by omega) f9_b1_1
  have f10_b2_0 := up1 hb10 (by omega) f9_b2_0
  have f10_b2_1 := up1 hb10 (by omega) f9_b2_1
  have f10_b3_0 := up1 hb10 (by omega) f9_b3_0
  have f10_b3_1 := up1 hb10 (by omega) f9_b3_1
  have f10_b4_0 := up1 hb10 (by omega) f9_b4_0
  have f10_b4_1 := up1 hb10 (by omega) f9_b4_1
  have f10_b5_0 := up1 hb10 (by omega) f9_b5_0
  have f10_b5_1 := up1 hb10 (by omega) f9_b5_1
  have f10_b6_0 := up1 hb10 (by omega) f9_b6_0
  have f10_b6_1 := up1 hb10 (by omega) f9_b6_1
  have f10_b7_0 := up1 hb10 (by omega) f9_b7_0
  have f10_b7_1 := up1 hb10 (by omega) f9_b7_1
  have f10_b8_0 : w10.cell? ⟨w9.heap.size, 0, none⟩ = some (.int .i64 d0) := (hb10.cell (p := ⟨w9.heap.size, 0, none⟩) (by show w9.heap.size < _; first | omega | (simp only [World.size_alloc, World.size_setCell, World.size_drew]; omega))).trans (by simp [go_sem, cell_set])
  have f10_b8_1 : w10.cell? ⟨w9.heap.size, 1, none⟩ = some (.int .i64 d1) := (hb10.cell (p := ⟨w9.heap.size, 1, none⟩) (by show w9.heap.size < _; first | omega | (simp only [World.size_alloc, World.size_setCell, World.size_drew]; omega))).trans (by simp [go_sem, cell_set])
  have g10_b5_0 : w10.frozen? ⟨w6.heap.size, 0, none⟩ = false := (hb10.frozen (p := ⟨w6.heap.size, 0, none⟩) (by show w6.heap.size < _; first | omega | (simp only [World.size_alloc, World.size_setCell, World.size_drew]; omega))).trans (by simp [go_sem, g9_b5_0, l9_0, l9_1, l9_2, l9_3, l9_4, l9_5, l9_6, l9_7])
  clear g9_b5_0
  have g10_b5_1 : w10.frozen? ⟨w6.heap.size, 1, none⟩ = false := (hb10.frozen (p := ⟨w6.heap.size, 1, none⟩) (by show w6.heap.size < _; first | omega | (simp only [World.size_alloc, World.size_setCell, World.size_drew]; omega))).trans (by simp [go_sem, g9_b5_1, l9_0, l9_1, l9_2, l9_3, l9_4, l9_5, l9_6, l9_7])
  clear g9_b5_1
  have hB10 : Below w.heap.size w w10 := (by (try show Below _ _ _); repeat (first | (with_reducible refine Below.setCell ?_ (by first | omega | (simp <;> omega)) _) | (with_reducible refine Below.alloc ?_ (by first | omega | (simp <;> omega)) _) | (with_reducible refine Below.drew ?_) | (with_reducible exact Below.refl _ _) | (with_reducible exact hB9) | (with_reducible refine below_call ?_ hb10 (by first | omega | (simp <;> omega))) | (with_reducible refine below_call ?_ (Drew.below hb10 _) (by first | omega | (simp <;> omega)))))
  clear hb10 hB9 f9_b0_0 f9_b0_1 f9_b1_0 f9_b1_1 f9_b2_0 f9_b2_1 f9_b3_0 f9_b3_1 f9_b4_0 f9_b4_1 f9_b5_0 f9_b5_1 f9_b6_0 f9_b6_1 f9_b7_0 f9_b7_1
  have l10_0 : w.heap.size < w10.heap.size := by omega
  have l10_1 : w.heap.size + 1 < w10.heap.size := by omega
  have l10_2 : w2.heap.size < w10.heap.size := by omega
  have l10_3 : w3.heap.size < w10.heap.size := by omega
  have l10_4 : w4.heap.size < w10.heap.size := by omega
  have l10_5 : w6.heap.size < w10.heap.size := by omega
  have l10_6 : w7.heap.size < w10.heap.size := by omega
  have l10_7 : w8.heap.size < w10.heap.size := by omega
  have l10_8 : w9.heap.size < w10.heap.size := by omega
  clear l9_0 l9_1 l9_2 l9_3 l9_4 l9_5 l9_6 l9_7
  go_wp2_with fail
  refine (h11 _).mono ?_
  rintro e w11 ⟨rfl, hb11⟩
  have hz11 := hb11.size
  (try simp only [World.size_alloc, World.size_setCell, World.size_drew] at hz11)
  have hB1_11 : Below w1.heap.size w1 w11 := (by (try show Below _ _ _); repeat (first | (with_reducible refine Below.setCell ?_ (by first | omega | (simp <;> omega)) _) | (with_reducible refine Below.alloc ?_ (by first | omega | (simp <;> omega)) _) | (with_reducible refine Below.drew ?_) | (with_reducible exact Below.refl _ _) | (with_reducible exact hB1_10) | (with_reducible refine below_call ?_ hb11 (by first | omega | (simp <;> omega))) | (with_reducible refine below_call ?_ (Drew.below hb11 _) (by first | omega | (simp <;> omega)))))
  clear hB1_10
  have hne1 : ¬ w.heap.size = w6.heap.size := by omega
  have hnf1 : ¬ w6.heap.size = w.heap.size := by omega
  have hne2 : ¬ w.heap.size + 1 = w6.heap.size := by omega
  have hnf2 : ¬ w6.heap.size = w.heap.size + 1 := by omega
  have hne3 : ¬ w2.heap.size = w6.heap.size := by omega
  have hnf3 : ¬ w6.heap.size = w2.heap.size := by omega
  have hne4 : ¬ w3.heap.size = w6.heap.size := by omega
  have hnf4 : ¬ w6.heap.size = w3.heap.size := by omega
  have hne5 : ¬ w4.heap.size = w6.heap.size := by omega
  have hnf5 : ¬ w6.heap.size = w4.heap.size := by omega
  have hne6 : ¬ w7.heap.size = w6.heap.size := by omega
  have hnf6 : ¬ w6.heap.size = w7.heap.size := by omega
  have hne7 : ¬ w8.heap.size = w6.heap.size := by omega
  have hnf7 : ¬ w6.heap.size = w8.heap.size := by omega
  have hne8 : ¬ w9.heap.size = w6.heap.size := by omega
  have hnf8 : ¬ w6.heap.size = w9.heap.size := by omega
  have f11_b0_0 : w11.cell? ⟨w.heap.size, 0, none⟩ = some (.int .i64 a0) := (hb11.cell (p := ⟨w.heap.size, 0, none⟩) (by show w.heap.size < _; first | omega | (simp only [World.size_alloc, World.size_setCell, World.size_drew]; omega))).trans (by simp [go_sem, cell_set, f10_b0_0, l10_0, l10_1, l10_2, l10_3, l10_4, l10_5, l10_6, l10_7, l10_8, hne1, hnf1, hne2, hnf2, hne3, hnf3, hne4, hnf4, hne5, hnf5, hne6, hnf6, hne7, hnf7, hne8, hnf8])
  have f11_b0_1 : w11.cell? ⟨w.heap.size, 1, none⟩ = some (.int .i64 a1) := (hb11.cell (p := ⟨w.heap.size, 1, none⟩) (by show w.heap.size < _; first | omega | (simp only [World.size_alloc, World.size_setCell, World.size_drew]; omega))).trans (by simp [go_sem, cell_set, f10_b0_1, l10_0, l10_1, l10_2, l10_3, l10_4, l10_5, l10_6, l10_7, l10_8, hne1, hnf1, hne2, hnf2, hne3, hnf3, hne4, hnf4, hne5, hnf5, hne6, hnf6, hne7, hnf7, hne8, hnf8])
  have f11_b1_0 : w11.cell? ⟨w.heap.size + 1, 0, none⟩ = some (.int .i64 b0) := (hb11.cell (p := ⟨w.heap.size + 1, 0, none⟩) (by show w.heap.size + 1 < _; first | omega | (simp only [World.size_alloc, World.size_setCell, World.size_drew]; omega))).trans (by simp [go_sem, cell_set, f10_b1_0, l10_0, l10_1, l10_2, l10_3, l10_4, l10_5, l10_6, l10_7, l10_8, hne1, hnf1, hne2, hnf2, hne3, hnf3, hne4, hnf4, hne5, hnf5, hne6, hnf6, hne7, hnf7, hne8, hnf8])
  have f11_b1_1 : w11.cell? ⟨w.heap.size + 1, 1, none⟩ = some (.int .i64 b1) := (hb11.cell (p := ⟨w.heap.size + 1, 1, none⟩) (by show w.heap.size + 1 < _; first | omega | (simp only [World.size_alloc, World.size_setCell, World.size_drew]; omega))).trans (by simp [go_sem, cell_set, f10_b1_1, l10_0, l10_1, l10_2, l10_3, l10_4, l10_5, l10_6, l10_7, l10_8, hne1, hnf1, hne2, hnf2, hne3, hnf3, hne4, hnf4, hne5, hnf5, hne6, hnf6, hne7, hnf7, hne8, hnf8])
  have f11_b2_0 : w11.cell? ⟨w2.heap.size, 0, none⟩ = some (.int .i64 s0) := (hb11.cell (p := ⟨w2.heap.size, 0, none⟩) (by show w2.heap.size < _; first | omega | (simp only [World.size_alloc, World.size_setCell, World.size_drew]; omega))).trans (by simp [go_sem, cell_set, f10_b2_0, l10_0, l10_1, l10_2, l10_3, l10_4, l10_5, l10_6, l10_7, l10_8, hne1, hnf1, hne2, hnf2, hne3, hnf3, hne4, hnf4, hne5, hnf5, hne6, hnf6, hne7, hnf7, hne8, hnf8])
  have f11_b2_1 : w11.cell? ⟨w2.heap.size, 1, none⟩ = some (.int .i64 s1) := (hb11.cell (p := ⟨w2.heap.size, 1, none⟩) (by show w2.heap.size < _; first | omega | (simp only [World.size_alloc, World.size_setCell, World.size_drew]; omega))).trans (by simp [go_sem, cell_set, f10_b2_1, l10_0, l10_1, l10_2, l10_3, l10_4, l10_5, l10_6, l10_7, l10_8, hne1, hnf1, hne2, hnf2, hne3, hnf3, hne4, hnf4, hne5, hnf5, hne6, hnf6, hne7, hnf7, hne8, hnf8])
  have f11_b3_0 : w11.cell? ⟨w3.heap.size, 0, none⟩ = some (.int .i64 m0) := (hb11.cell (p := ⟨w3.heap.size, 0, none⟩) (by show w3.heap.size < _; first | omega | (simp only [World.size_alloc, World.size_setCell, World.size_drew]; omega))).trans (by simp [go_sem, cell_set, f10_b3_0, l10_0, l10_1, l10_2, l10_3, l10_4, l10_5, l10_6, l10_7, l10_8, hne1, hnf1, hne2, hnf2, hne3, hnf3, hne4, hnf4, hne5, hnf5, hne6, hnf6, hne7, hnf7, hne8, hnf8])
  have f11_b3_1 : w11.cell? ⟨w3.heap.size, 1, none⟩ = some (.int .i64 m1) := (hb11.cell (p := ⟨w3.heap.size, 1, none⟩) (by show w3.heap.size < _; first | omega | (simp only [World.size_alloc, World.size_setCell, World.size_drew]; omega))).trans (by simp [go_sem, cell_set, f10_b3_1, l10_0, l10_1, l10_2, l10_3, l10_4, l10_5, l10_6, l10_7, l10_8, hne1, hnf1, hne2, hnf2, hne3, hnf3, hne4, hnf4, hne5, hnf5, hne6, hnf6, hne7, hnf7, hne8, hnf8])
  have f11_b4_0 : w11.cell? ⟨w4.heap.size, 0, none⟩ = some (.int .i64 u0) := (hb11.cell (p := ⟨w4.heap.size, 0, none⟩) (by show w4.heap.size < _; first | omega | (simp only [World.size_alloc, World.size_setCell, World.size_drew]; omega))).trans (by simp [go_sem, cell_set, f10_b4_0, l10_0, l10_1, l10_2, l10_3, l10_4, l10_5, l10_6, l10_7, l10_8, hne1, hnf1, hne2, hnf2, hne3, hnf3, hne4, hnf4, hne5, hnf5, hne6, hnf6, hne7, hnf7, hne8, hnf8])
  have f11_b4_1 : w11.cell? ⟨w4.heap.size, 1, none⟩ = some (.int .i64 u1) := (hb11.cell (p := ⟨w4.heap.size, 1, none⟩) (by show w4.heap.size < _; first | omega | (simp only [World.size_alloc, World.size_setCell, World.size_drew]; omega))).trans (by simp [go_sem, cell_set, f10_b4_1, l10_0, l10_1, l10_2, l10_3, l10_4, l10_5, l10_6, l10_7, l10_8, hne1, hnf1, hne2, hnf2, hne3, hnf3, hne4, hnf4, hne5, hnf5, hne6, hnf6, hne7, hnf7, hne8, hnf8])
  have f11_b5_0 : w11.cell? ⟨w6.heap.size, 0, none⟩ = some (.int .i64 d0) := (hb11.cell (p := ⟨w6.heap.size, 0, none⟩) (by show w6.heap.size < _; first | omega | (simp only [World.size_alloc, World.size_setCell, World.size_drew]; omega))).trans (by simp [go_sem, cell_set, f10_b5_0, l10_0, l10_1, l10_2, l10_3, l10_4, l10_5, l10_6, l10_7, l10_8, hne1, hnf1, hne2, hnf2, hne3, hnf3, hne4, hnf4, hne5, hnf5, hne6, hnf6, hne7, hnf7, hne8, hnf8])
  have f11_b5_1 : w11.cell? ⟨w6.heap.size, 1, none⟩ = some (.int .i64 d1) := (hb11.cell (p := ⟨w6.heap.size, 1, none⟩) (by show w6.heap.size < _; first | omega | (simp only [World.size_alloc, World.size_setCell, World.size_drew]; omega))).trans (by simp [go_sem, cell_set, f10_b5_1, l10_0, l10_1, l10_2, l10_3, l10_4, l10_5, l10_6, l10_7, l10_8, hne1, hnf1, hne2, hnf2, hne3, hnf3, hne4, hnf4, hne5, hnf5, hne6, hnf6, hne7, hnf7, hne8, hnf8])
  have f11_b6_0 : w11.cell? ⟨w7.heap.size, 0, none⟩ = some (.int .i64 m0) := (hb11.cell (p := ⟨w7.heap.size, 0, none⟩) (by show w7.heap.size < _; first | omega | (simp only [World.size_alloc, World.size_setCell, World.size_drew]; omega))).trans (by simp [go_sem, cell_set, f10_b6_0, l10_0, l10_1, l10_2, l10_3, l10_4, l10_5, l10_6, l10_7, l10_8, hne1, hnf1, hne2, hnf2, hne3, hnf3, hne4, hnf4, hne5, hnf5, hne6, hnf6, hne7, hnf7, hne8, hnf8])
  have f11_b6_1 : w11.cell? ⟨w7.heap.size, 1, none⟩ = some (.int .i64 m1) := (hb11.cell (p := ⟨w7.heap.size, 1, none⟩) (by show w7.heap.size < _; first | omega | (simp only [World.size_alloc, World.size_setCell, World.size_drew]; omega))).trans (by simp [go_sem, cell_set, f10_b6_1, l10_0, l10_1, l10_2, l10_3, l10_4, l10_5, l10_6, l10_7, l10_8, hne1, hnf1, hne2, hnf2, hne3, hnf3, hne4, hnf4, hne5, hnf5, hne6, hnf6, hne7, hnf7, hne8, hnf8])
  have f11_b7_0 : w11.cell? ⟨w8.heap.size, 0, none⟩ = some (.int .i64 u0) := (hb11.cell (p := ⟨w8.heap.size, 0, none⟩) (by show w8.heap.size < _; first | omega | (simp only [World.size_alloc, World.size_setCell, World.size_drew]; omega))).trans (by simp [go_sem, cell_set, f10_b7_0, l10_0, l10_1, l10_2, l10_3, l10_4, l10_5, l10_6, l10_7, l10_8, hne1, hnf1, hne2, hnf2, hne3, hnf3, hne4, hnf4, hne5, hnf5, hne6, hnf6, hne7, hnf7, hne8, hnf8])
  have f11_b7_1 : w11.cell? ⟨w8.heap.size, 1, none⟩ = some (.int .i64 u1) := (hb11.cell (p := ⟨w8.heap.size, 1, none⟩) (by show w8.heap.size < _; first | omega | (simp only [World.size_alloc, World.size_setCell, World.size_drew]; omega))).trans (by simp [go_sem, cell_set, f10_b7_1, l10_0, l10_1, l10_2, l10_3, l10_4, l10_5, l10_6, l10_7, l10_8, hne1, hnf1, hne2, hnf2, hne3, hnf3, hne4, hnf4, hne5, hnf5, hne6, hnf6, hne7, hnf7, hne8, hnf8])
  have f11_b8_0 : w11.cell? ⟨w9.heap.size, 0, none⟩ = some (.int .i64 d0) := (hb11.cell (p := ⟨w9.heap.size, 0, none⟩) (by show w9.heap.size < _; first | omega | (simp only [World.size_alloc, World.size_setCell, World.size_drew]; omega))).trans (by simp [go_sem, cell_set, f10_b8_0, l10_0, l10_1, l10_2, l10_3, l10_4, l10_5, l10_6, l10_7, l10_8, hne1, hnf1, hne2, hnf2, hne3, hnf3, hne4, hnf4, hne5, hnf5, hne6, hnf6, hne7, hnf7, hne8, hnf8])
  have f11_b8_1 : w11.cell? ⟨w9.heap.size, 1, none⟩ = some (.int .i64 d1) := (hb11.cell (p := ⟨w9.heap.size, 1, none⟩) (by show w9.heap.size < _; first | omega | (simp only [World.size_alloc, World.size_setCell, World.size_drew]; omega))).trans (by simp [go_sem, cell_set, f10_b8_1, l10_0, l10_1, l10_2, l10_3, l10_4, l10_5, l10_6, l10_7, l10_8, hne1, hnf1, hne2, hnf2, hne3, hnf3, hne4, hnf4, hne5, hnf5, hne6, hnf6, hne7, hnf7, hne8, hnf8])
  have g11_b5_0 : w11.frozen? ⟨w6.heap.size, 0, none⟩ = false := (hb11.frozen (p := ⟨w6.heap.size, 0, none⟩) (by show w6.heap.size < _; first | omega | (simp only [World.size_alloc, World.size_setCell, World.size_drew]; omega))).trans (by simp [go_sem, g10_b5_0, l10_0, l10_1, l10_2, l10_3, l10_4, l10_5, l10_6, l10_7, l10_8])
  clear g10_b5_0
  have g11_b5_1 : w11.frozen? ⟨w6.heap.size, 1, none⟩ = false := (hb11.frozen (p := ⟨w6.heap.size, 1, none⟩) (by show w6.heap.size < _; first | omega | (simp only [World.size_alloc, World.size_setCell, World.size_drew]; omega))).trans (by simp [go_sem, g10_b5_1, l10_0, l10_1, l10_2, l10_3, l10_4, l10_5, l10_6, l10_7, l10_8])
  clear g10_b5_1
  have hB11 : Below w.heap.size w w11 := (by (try show Below _ _ _); repeat (first | (with_reducible refine Below.setCell ?_ (by first | omega | (simp <;> omega)) _) | (with_reducible refine Below.alloc ?_ (by first | omega | (simp <;> omega)) _) | (with_reducible refine Below.drew ?_) | (with_reducible exact Below.refl _ _) | (with_reducible exact hB10) | (with_reducible refine below_call ?_ hb11 (by first | omega | (simp <;> omega))) | (with_reducible refine below_call ?_ (Drew.below hb11 _) (by first | omega | (simp <;> omega)))))
  clear hb11 hB10 f10_b0_0 f10_b0_1 f10_b1_0 f10_b1_1 f10_b2_0 f10_b2_1 f10_b3_0 f10_b3_1 f10_b4_0 f10_b4_1 f10_b5_0 f10_b5_1 f10_b6_0 f10_b6_1 f10_b7_0 f10_b7_1 f10_b8_0 f10_b8_1
  have l11_0 : w.heap.size < w11.heap.size := by omega
  have l11_1 : w.heap.size + 1 < w11.heap.size := by omega
  have l11_2 : w2.heap.size < w11.heap.size := by omega
  have l11_3 : w3.heap.size < w11.heap.size := by omega
  have l11_4 : w4.heap.size < w11.heap.size := by omega
  have l11_5 : w6.heap.size < w11.heap.size := by omega
  have l11_6 : w7.heap.size < w11.heap.size := by omega
  have l11_7 : w8.heap.size < w11.heap.size := by omega
  have l11_8 : w9.heap.size < w11.heap.size := by omega
  clear l10_0 l10_1 l10_2 l10_3 l10_4 l10_5 l10_6 l10_7 l10_8
  go_wp2_with fail
  refine (hRa _).mono ?_
  rintro e w12 ⟨rfl, hb12⟩
  have hz12 := hb12.size
  (try simp only [World.size_alloc, World.size_setCell, World.size_drew] at hz12)
  have hB1_12 : Below w1.heap.size w1 w12 := (by (try show Below _ _ _); repeat (first | (with_reducible refine Below.setCell ?_ (by first | omega | (simp <;> omega)) _) | (with_reducible refine Below.alloc ?_ (by first | omega | (simp <;> omega)) _) | (with_reducible refine Below.drew ?_) | (with_reducible exact Below.refl _ _) | (with_reducible exact hB1_11) | (with_reducible refine below_call ?_ hb12 (by first | omega | (simp <;> omega))) | (with_reducible refine below_call ?_ (Drew.below hb12 _) (by first | omega | (simp <;> omega)))))
  clear hB1_11
  have f12_b0_0 := up0 hb12 (by omega) f11_b0_0
  have f12_b0_1 := up0 hb12 (by omega) f11_b0_1
  have f12_b1_0 := up0 hb12 (by omega) f11_b1_0
  have f12_b1_1 := up0 hb12 (by omega) f11_b1_1
  have f12_b2_0 := up0 hb12 (by omega) f11_b2_0
  have f12_b2_1 := up0 hb12 (by omega) f11_b2_1
  have f12_b3_0 := up0 hb12 (by omega) f11_b3_0
  have f12_b3_1 := up0 hb12 (by omega) f11_b3_1
  have f12_b4_0 := up0 hb12 (by omega) f11_b4_0
  have f12_b4_1 := up0 hb12 (by omega) f11_b4_1
  have f12_b5_0 := up0 hb12 (by omega) f11_b5_0
  have f12_b5_1 := up0 hb12 (by omega) f11_b5_1
  have f12_b6_0 := up0 hb12 (by omega) f11_b6_0
  have f12_b6_1 := up0 hb12 (by omega) f11_b6_1
  have f12_b7_0 := up0 hb12 (by omega) f11_b7_0
  have f12_b7_1 := up0 hb12 (by omega) f11_b7_1
  have f12_b8_0 := up0 hb12 (by omega) f11_b8_0
  have f12_b8_1 := up0 hb12 (by omega) f11_b8_1
  have g12_b5_0 : w12.frozen? ⟨w6.heap.size, 0, none⟩ = false := (hb12.frozen (p := ⟨w6.heap.size, 0, none⟩) (by show w6.heap.size < _; first | omega | (simp only [World.size_alloc, World.size_setCell, World.size_drew]; omega))).trans (by simp [go_sem, g11_b5_0, l11_0, l11_1, l11_2, l11_3, l11_4, l11_5, l11_6, l11_7, l11_8])
  clear g11_b5_0
  have g12_b5_1 : w12.frozen? ⟨w6.heap.size, 1, none⟩ = false := (hb12.frozen (p := ⟨w6.heap.size, 1, none⟩) (by show w6.heap.size < _; first | omega | (simp only [World.size_alloc, World.size_setCell, World.size_drew]; omega))).trans (by simp [go_sem, g11_b5_1, l11_0, l11_1, l11_2, l11_3, l11_4, l11_5, l11_6, l11_7, l11_8])
  clear g11_b5_1
  have hB12 : Below w.heap.size w w12 := (by (try show Below _ _ _); repeat (first | (with_reducible refine Below.setCell ?_ (by first | omega | (simp <;> omega)) _) | (with_reducible refine Below.alloc ?_ (by first | omega | (simp <;> omega)) _) | (with_reducible refine Below.drew ?_) | (with_reducible exact Below.refl _ _) | (with_reducible exact hB11) | (with_reducible refine below_call ?_ hb12 (by first | omega | (simp <;> omega))) | (with_reducible refine below_call ?_ (Drew.below hb12 _) (by first | omega | (simp <;> omega)))))
  clear hb12 hB11 f11_b0_0 f11_b0_1 f11_b1_0 f11_b1_1 f11_b2_0 f11_b2_1 f11_b3_0 f11_b3_1 f11_b4_0 f11_b4_1 f11_b5_0 f11_b5_1 f11_b6_0 f11_b6_1 f11_b7_0 f11_b7_1 f11_b8_0 f11_b8_1
  have l12_0 : w.heap.size < w12.heap.size := by omega
  have l12_1 : w.heap.size + 1 < w12.heap.size := by omega
  have l12_2 : w2.heap.size < w12.heap.size := by omega
  have l12_3 : w3.heap.size < w12.heap.size := by omega
  have l12_4 : w4.heap.size < w12.heap.size := by omega
  have l12_5 : w6.heap.size < w12.heap.size := by omega
  have l12_6 : w7.heap.size < w12.heap.size := by omega
  have l12_7 : w8.heap.size < w12.heap.size := by omega
  have l12_8 : w9.heap.size < w12.heap.size := by omega
  clear l11_0 l11_1 l11_2 l11_3 l11_4 l11_5 l11_6 l11_7 l11_8
  go_wp2_with fail
  refine (hk _).mono ?_
  rintro e w13 ⟨rfl, hb13⟩
  have hz13 := hb13.size
  (try simp only [World.size_alloc, World.size_setCell, World.size_drew] at hz13)
  have hB1_13 : Below w1.heap.size w1 w13 := (by (try show Below _ _ _); repeat (first | (with_reducible refine Below.setCell ?_ (by first | omega | (simp <;> omega)) _) | (with_reducible refine Below.alloc ?_ (by first | omega | (simp <;> omega)) _) | (with_reducible refine Below.drew ?_) | (with_reducible exact Below.refl _ _) | (with_reducible exact hB1_12) | (with_reducible refine below_call ?_ hb13 (by first | omega | (simp <;> omega))) | (with_reducible refine below_call ?_ (Drew.below hb13 _) (by first | omega | (simp <;> omega)))))
  clear hB1_12
  have f13_b0_0 := up0 hb13 (by omega) f12_b0_0
  have f13_b0_1 := up0 hb13 (by omega) f12_b0_1
  have f13_b1_0 := up0 hb13 (by omega) f12_b1_0
  have f13_b1_1 := up0 hb13 (by omega) f12_b1_1
  have f13_b2_0 := up0 hb13 (by omega) f12_b2_0
  have f13_b2_1 := up0 hb13 (by omega) f12_b2_1
  have f13_b3_0 := up0 hb13 (by omega) f12_b3_0
  have f13_b3_1 := up0 hb13 (by omega) f12_b3_1
  have f13_b4_0 := up0 hb13 (by omega) f12_b4_0
  have f13_b4_1 := up0 hb13 (by omega) f12_b4_1
  have f13_b5_0 := up0 hb13 (by omega) f12_b5_0
  have f13_b5_1 := up0 hb13 (by omega) f12_b5_1
  have f13_b6_0 := up0 hb13 (by omega) f12_b6_0
  have f13_b6_1 := up0 hb13 (by omega) f12_b6_1
  have f13_b7_0 := up0 hb13 (by omega) f12_b7_0
  have f13_b7_1 := up0 hb13 (by omega) f12_b7_1
  have f13_b8_0 := up0 hb13 (by omega) f12_b8_0
  have f13_b8_1 := up0 hb13 (by omega) f12_b8_1
  have g13_b5_0 : w13.frozen? ⟨w6.heap.size, 0, none⟩ = false := (hb13.frozen (p := ⟨w6.heap.size, 0, none⟩) (by show w6.heap.size < _; first | omega | (simp only [World.size_alloc, World.size_setCell, World.size_drew]; omega))).trans (by simp [go_sem, g12_b5_0, l12_0, l12_1, l12_2, l12_3, l12_4, l12_5, l12_6, l12_7, l12_8])
  clear g12_b5_0
  have g13_b5_1 : w13.frozen? ⟨w6.heap.size, 1, none⟩ = false := (hb13.frozen (p := ⟨w6.heap.size, 1, none⟩) (by show w6.heap.size < _; first | omega | (simp only [World.size_alloc, World.size_setCell, World.size_drew]; omega))).trans (by simp [go_sem, g12_b5_1, l12_0, l12_1, l12_2, l12_3, l12_4, l12_5, l12_6, l12_7, l12_8])
  clear g12_b5_1
  have hB13 : Below w.heap.size w w13 := (by (try show Below _ _ _); repeat (first | (with_reducible refine Below.setCell ?_ (by first | omega | (simp <;> omega)) _) | (with_reducible refine Below.alloc ?_ (by first | omega | (simp <;> omega)) _) | (with_reducible refine Below.drew ?_) | (with_reducible exact Below.refl _ _) | (with_reducible exact hB12) | (with_reducible refine below_call ?_ hb13 (by first | omega | (simp <;> omega))) | (with_reducible refine below_call ?_ (Drew.below hb13 _) (by first | omega | (simp <;> omega)))))
  clear hb13 hB12 f12_b0_0 f12_b0_1 f12_b1_0 f12_b1_1 f12_b2_0 f12_b2_1 f12_b3_0 f12_b3_1 f12_b4_0 f12_b4_1 f12_b5_0 f12_b5_1 f12_b6_0 f12_b6_1 f12_b7_0 f12_b7_1 f12_b8_0 f12_b8_1
  have l13_0 : w.heap.size < w13.heap.size := by omega
  have l13_1 : w.heap.size + 1 < w13.heap.size := by omega
  have l13_2 : w2.heap.size < w13.heap.size := by omega
  have l13_3 : w3.heap.size < w13.heap.size := by omega
  have l13_4 : w4.heap.size < w13.heap.size := by omega
  have l13_5 : w6.heap.size < w13.heap.size := by omega
  have l13_6 : w7.heap.size < w13.heap.size := by omega
  have l13_7 : w8.heap.size < w13.heap.size := by omega
  have l13_8 : w9.heap.size < w13.heap.size := by omega
  clear l12_0 l12_1 l12_2 l12_3 l12_4 l12_5 l12_6 l12_7 l12_8
  go_wp2
  go_ret
  exact ⟨rfl, (by (try show Below _ _ _); repeat (first | (with_reducible refine Below.setCell ?_ (by first | omega | (simp <;> omega)) _) | (with_reducible refine Below.alloc ?_ (by first | omega | (simp <;> omega)) _) | (with_reducible refine Below.drew ?_) | (with_reducible exact Below.refl _ _) | (with_reducible exact hB13) | (with_reducible refine below_call ?_ (by assumption) (by first | omega | (simp <;> omega))) | (with_reducible refine below_call ?_ (Drew.below (by assumption) _) (by first | omega | (simp <;> omega)))))⟩

end Go.Proofs.Ytfohdafijfjefaa
