/- spilelaw01.SpanTables: the walk (xin_alow_bbad). -/
import Derived.Test.YtfohdafijfjefaaKnown1
import Derived.Test.YtfohdafijfjefaaRefVals
import Derived.Test.YtfohdafijfjefaaRefWhere
import Derived.Test.YtfohdafijfjefaaValuesB
import Derived.Test.YtfohdafijfjefaaFlat
set_option linter.unusedSimpArgs false
set_option linter.unusedVariables false
namespace Go.Proofs.Ytfohdafijfjefaa
open Go.RowKit Go.Shelf

set_option maxRecDepth 100000 in
set_option maxHeartbeats 4000000 in
theorem tabs_xin_alow_bbad (A : Option Addr) (n c : Nat) (xs : List R) (x a0 a1 b0 b1 : Int) (w : World) (hl : PairList w A n c xs) (h : ¬ 80 < n) (ht : tableS xs = true) (hvx : valueIn xs x = true) (hoa : okR ⟨a0, a1⟩ = true) (hba : btw (firstX xs) (lastX xs) [a0, a1] = false) (hla : inS a0 (firstX xs) (lastX xs) = false) (hob : okR ⟨b0, b1⟩ = false) :
    Calls Try.prog 11 #[.slice A n c, .int .i64 x, .agg #[.int .i64 a0, .int .i64 a1, .int .i64 b0, .int .i64 b1]] w fun e w' => e = .returned (.bool true) ∧ Below w.heap.size w w' := by
  obtain ⟨hlen, hle, hmax, hnone, hx, -⟩ := hl
  have hk := fun W => known1_any W
  have hz : ¬ (80 : Int) < (n : Int) := by omega
  have h1 := fun W hx => copy_60 0 A n c xs W hx hlen hnone (by omega)
  have hn : Aside (xs.length = n) := hlen
  have hmn : n ≤ maxLen := by unfold maxLen; omega
  have h2 := fun lo A c W hx => CheckTable_any lo A n c xs W hx hn hmn
  have h3 := fun lo A c W hx => Value_any lo A n c xs x W hx hn hmn
  have h4 := fun lo A c W hx => Values_any lo A n c xs a0 a1 W hx hn hmn
  have h5 := fun lo A c W hx hnc hl => Where_any lo A n c xs b0 b1 W hx hn hnc hl
  have h6 := fun W hx => refTable_any 0 A n c xs W hx hn hmn
  obtain ⟨hr1, hr2, hr60⟩ := (tableS_iff xs).1 ht
  rw [ht] at h2 h6
  rw [if_pos rfl] at h2
  have hRa := fun W => refRange_any a0 a1 W
  have hRb := fun W => refRange_any b0 b1 W
  have hIx := fun W => (in_any x (firstX xs) (lastX xs) W).mono fun e w' h => (⟨h.1, h.2 ▸ Below.refl _ _⟩ : _ ∧ Below W.heap.size W w')
  rw [show valueS xs x = (valS xs x, 0) from (if_neg (by rw [ht]; decide)).trans (if_neg (by rw [hvx]; decide))] at h3
  have h8 := fun W hx => refValue_any 0 A n c xs x W hx hn ht hvx
  generalize valS xs x = v at h3 h8
  obtain ⟨v0, v1⟩ := v
  simp only at h8
  have hix : inS x (firstX xs) (lastX xs) = true := by rw [← hvx]; unfold inS valueIn btw; simp
  have hIl := fun W => (in_any a0 (firstX xs) (lastX xs) W).mono fun e w' h => (⟨h.1, h.2 ▸ Below.refl _ _⟩ : _ ∧ Below W.heap.size W w')
  have hIh := fun W => (in_any a1 (firstX xs) (lastX xs) W).mono fun e w' h => (⟨h.1, h.2 ▸ Below.refl _ _⟩ : _ ∧ Below W.heap.size W w')
  rw [show valuesS xs ⟨a0, a1⟩ = (⟨0, 0⟩, 3) from (if_neg (by rw [ht, hoa]; decide)).trans (if_pos hba)] at h4
  rw [hla] at hIl
  rw [show whereS xs ⟨b0, b1⟩ = ([], 2) from if_pos (.inr hob)] at h5
  rw [hix] at hIx
  rw [hoa] at hRa
  rw [hob] at hRb
  simp only [RE] at h3 h4
  obtain ⟨b, o, rfl, _, hlb, hc⟩ := hx (by omega)
  have g0 := hc 0 0 (by omega) (by omega)
  have g1 := hc (n - 1) 0 (by omega) (by omega)
  clear hc
  rw [show (xs[n - 1]?.getD R.d) = (xs[xs.length - 1]?.getD R.d) by rw [hlen]] at g1
  rw [show R.cell (xs[0]?.getD R.d) 0 = .int .i64 (firstX xs) from rfl] at g0
  rw [show R.cell (xs[xs.length - 1]?.getD R.d) 0 = .int .i64 (lastX xs) from rfl] at g1
  simp only [Nat.zero_mul, Nat.add_zero] at g0 g1
  clear hr1 ht hix hoa hob hvx hba hla
  generalize firstX xs = fx at *
  generalize lastX xs = lx at *
  have hwn : IntKind.i64.wrap ((n : Int) - 1) = ((n - 1 : Nat) : Int) := by rw [IntKind.wrap_i64]; omega
  have hwn0 : (0 : Int) ≤ ((n - 1 : Nat) : Int) := by omega
  have hwn1 : ((n - 1 : Nat) : Int) < (n : Int) := by omega
  have hnp : (0 : Int) < (n : Int) := by omega
  have hn1 : n - 1 < n := by omega
  have hn0 : 0 < n := by omega
  clear hlen hnone
  unfold maxLen at hmax
  go_enter Try.func11, Try.ntmps11
  go_wp2_with fail
  refine (h1 _ (hx.below (ua1 (Below.refl _ _)) (Nat.le_refl _))).mono ?_
  rintro e w1 ⟨A2, c2, rfl, hc2, hm2, hy, hb1⟩
  replace hy := hy.mono (Nat.zero_le _)
  have hz1 := hb1.size
  (try simp only [World.size_alloc, World.size_setCell, World.size_drew] at hz1)
  have f1_b0_0 : w1.cell? ⟨w.heap.size, 0, none⟩ = some (.int .i64 a0) := (hb1.cell (p := ⟨w.heap.size, 0, none⟩) (by show w.heap.size < _; first | omega | (simp only [World.size_alloc, World.size_setCell, World.size_drew]; omega))).trans (by simp [go_sem, cell_set])
  have f1_b0_1 : w1.cell? ⟨w.heap.size, 1, none⟩ = some (.int .i64 a1) := (hb1.cell (p := ⟨w.heap.size, 1, none⟩) (by show w.heap.size < _; first | omega | (simp only [World.size_alloc, World.size_setCell, World.size_drew]; omega))).trans (by simp [go_sem, cell_set])
  have f1_b0_2 : w1.cell? ⟨w.heap.size, 2, none⟩ = some (.int .i64 b0) := (hb1.cell (p := ⟨w.heap.size, 2, none⟩) (by show w.heap.size < _; first | omega | (simp only [World.size_alloc, World.size_setCell, World.size_drew]; omega))).trans (by simp [go_sem, cell_set])
  have f1_b0_3 : w1.cell? ⟨w.heap.size, 3, none⟩ = some (.int .i64 b1) := (hb1.cell (p := ⟨w.heap.size, 3, none⟩) (by show w.heap.size < _; first | omega | (simp only [World.size_alloc, World.size_setCell, World.size_drew]; omega))).trans (by simp [go_sem, cell_set])
  have hB1 : Below w.heap.size w w1 := ub1 (Below.refl _ _) hb1
  clear hb1 
  have l1_0 : w.heap.size < w1.heap.size := by omega
  go_wp2_with fail
  refine (h2 _ _ _ _ (hy.below (Below.refl _ _) (Nat.le_refl _))).mono ?_
  rintro e w2 ⟨rfl, hb2⟩
  have hz2 := hb2.size
  (try simp only [World.size_alloc, World.size_setCell, World.size_drew] at hz2)
  have hB1_2 : Below w1.heap.size w1 w2 := ub0 (Below.refl _ _) hb2
  have f2_b0_0 := up0 hb2 (by omega) f1_b0_0
  have f2_b0_1 := up0 hb2 (by omega) f1_b0_1
  have f2_b0_2 := up0 hb2 (by omega) f1_b0_2
  have f2_b0_3 := up0 hb2 (by omega) f1_b0_3
  have hB2 : Below w.heap.size w w2 := ub0 (hB1) hb2
  clear hb2 hB1 f1_b0_0 f1_b0_1 f1_b0_2 f1_b0_3
  have l2_0 : w.heap.size < w2.heap.size := by omega
  clear l1_0
  go_wp2_with fail
  refine (h3 _ _ _ _ (hy.below (hB1_2) (Nat.le_refl _))).mono ?_
  rintro e w3 ⟨rfl, hb3⟩
  have hz3 := hb3.size
  (try simp only [World.size_alloc, World.size_setCell, World.size_drew] at hz3)
  have hB1_3 : Below w1.heap.size w1 w3 := ub0 (hB1_2) hb3
  clear hB1_2
  have f3_b0_0 := up0 hb3 (by omega) f2_b0_0
  have f3_b0_1 := up0 hb3 (by omega) f2_b0_1
  have f3_b0_2 := up0 hb3 (by omega) f2_b0_2
  have f3_b0_3 := up0 hb3 (by omega) f2_b0_3
  have hB3 : Below w.heap.size w w3 := ub0 (hB2) hb3
  clear hb3 hB2 f2_b0_0 f2_b0_1 f2_b0_2 f2_b0_3
  have l3_0 : w.heap.size < w3.heap.size := by omega
  clear l2_0
  go_wp2_with fail
  refine (h4 _ _ _ _ (hy.below (ua1 (hB1_3)) (Nat.le_refl _))).mono ?_
  rintro e w4 ⟨rfl, hb4⟩
  have hz4 := hb4.size
  (try simp only [World.size_alloc, World.size_setCell, World.size_drew] at hz4)
  have hB1_4 : Below w1.heap.size w1 w4 := ub1 (hB1_3) hb4
  clear hB1_3
  have f4_b0_0 := up1 hb4 (by omega) f3_b0_0
  have f4_b0_1 := up1 hb4 (by omega) f3_b0_1
  have f4_b0_2 := up1 hb4 (by omega) f3_b0_2
  have f4_b0_3 := up1 hb4 (by omega) f3_b0_3
  have f4_b1_0 : w4.cell? ⟨w3.heap.size, 0, none⟩ = some (.int .i64 v0) := (hb4.cell (p := ⟨w3.heap.size, 0, none⟩) (by show w3.heap.size < _; first | omega | (simp only [World.size_alloc, World.size_setCell, World.size_drew]; omega))).trans (by simp [go_sem, cell_set])
  have f4_b1_1 : w4.cell? ⟨w3.heap.size, 1, none⟩ = some (.int .i64 v1) := (hb4.cell (p := ⟨w3.heap.size, 1, none⟩) (by show w3.heap.size < _; first | omega | (simp only [World.size_alloc, World.size_setCell, World.size_drew]; omega))).trans (by simp [go_sem, cell_set])
  have hB4 : Below w.heap.size w w4 := ub1 (hB3) hb4
  clear hb4 hB3 f3_b0_0 f3_b0_1 f3_b0_2 f3_b0_3
  have l4_0 : w.heap.size < w4.heap.size := by omega
  have l4_1 : w3.heap.size < w4.heap.size := by omega
  clear l3_0
  go_wp2_with fail
  refine (h5 _ _ _ _ (hy.below (ua1 (hB1_4)) (Nat.le_refl _)) hc2 hm2).mono ?_
  rintro e w5 ⟨v2, rfl, -, hv2, hb5⟩
  obtain rfl := hv2 rfl
  clear hv2
  have hz5 := hb5.size
  (try simp only [World.size_alloc, World.size_setCell, World.size_drew] at hz5)
  have hB1_5 : Below w1.heap.size w1 w5 := ub1 (hB1_4) hb5
  clear hB1_4
  have f5_b0_0 := up1 hb5 (by omega) f4_b0_0
  have f5_b0_1 := up1 hb5 (by omega) f4_b0_1
  have f5_b0_2 := up1 hb5 (by omega) f4_b0_2
  have f5_b0_3 := up1 hb5 (by omega) f4_b0_3
  have f5_b1_0 := up1 hb5 (by omega) f4_b1_0
  have f5_b1_1 := up1 hb5 (by omega) f4_b1_1
  have f5_b2_0 : w5.cell? ⟨w4.heap.size, 0, none⟩ = some (.int .i64 0) := (hb5.cell (p := ⟨w4.heap.size, 0, none⟩) (by show w4.heap.size < _; first | omega | (simp only [World.size_alloc, World.size_setCell, World.size_drew]; omega))).trans (by simp [go_sem, cell_set])
  have f5_b2_1 : w5.cell? ⟨w4.heap.size, 1, none⟩ = some (.int .i64 0) := (hb5.cell (p := ⟨w4.heap.size, 1, none⟩) (by show w4.heap.size < _; first | omega | (simp only [World.size_alloc, World.size_setCell, World.size_drew]; omega))).trans (by simp [go_sem, cell_set])
  have hB5 : Below w.heap.size w w5 := ub1 (hB4) hb5
  clear hb5 hB4 f4_b0_0 f4_b0_1 f4_b0_2 f4_b0_3 f4_b1_0 f4_b1_1
  have l5_0 : w.heap.size < w5.heap.size := by omega
  have l5_1 : w3.heap.size < w5.heap.size := by omega
  have l5_2 : w4.heap.size < w5.heap.size := by omega
  clear l4_0 l4_1
  go_wp2_with fail
  have hxl : Ranges w5 0 _ xs := (hx.below (hB5) (Nat.le_refl _))
  have hyl : Ranges w5 0 A2 xs := (hy.below (hB1_5) (Nat.le_refl _))
  go_loopg [15] (n) (fun gg i wr => ∃ k : Nat, k ≤ n ∧ n - k ≤ gg ∧ i = .int .i64 k ∧ Aside (Below w5.heap.size w5 wr))
  case atStart => exact ⟨0, Nat.zero_le _, Nat.le_refl _, rfl, Below.refl _ _⟩
  case round =>
    obtain ⟨k, hk', hg, rfl, I⟩ := hrel
    by_cases hlt : k < n
    · obtain ⟨bb1, o1, hA1, _, hlb1, hc1⟩ := hxl (by have := hn.out; omega)
      injection hA1 with hA1
      injection hA1 with hA2 hA3
      subst hA2
      subst hA3
      obtain ⟨b2, o2, rfl, _, hlb2, hc2'⟩ := hyl (by have := hn.out; omega)
      have x0 := (I.out.cell (p := ⟨b, o + k * 2 + 0, none⟩) hlb1).trans (hc1 k 0 (by have := hn.out; omega) (by omega))
      have x1 := (I.out.cell (p := ⟨b, o + k * 2 + 1, none⟩) hlb1).trans (hc1 k 1 (by have := hn.out; omega) (by omega))
      have y0 := (I.out.cell (p := ⟨b2, o2 + k * 2 + 0, none⟩) hlb2).trans (hc2' k 0 (by have := hn.out; omega) (by omega))
      have y1 := (I.out.cell (p := ⟨b2, o2 + k * 2 + 1, none⟩) hlb2).trans (hc2' k 1 (by have := hn.out; omega) (by omega))
      clear hc1 hc2' hx hy hxl hyl
      generalize xs[k]?.getD R.d = r at x0 x1 y0 y1
      obtain ⟨r0, r1⟩ := r
      simp only [R.cell, Nat.add_zero, if_true, Nat.one_ne_zero, if_false] at x0 x1 y0 y1
      have hltz : (k : Int) < (n : Int) := by omega
      have hk0 : (0 : Int) ≤ (k : Int) := by omega
      go_wp2_with fail
      go_quiet (fail)
      generalize hq : World.drewN wr _ = wd
      have hD := drawnB hq
      have J := Lib.hid (I.out.trans (hD.mono (by have := I.out.size; omega)))
      clear hq hD I
      go_wp2
      go_roundg (n - (k + 1))
      case measure => omega
      case rel => exact ⟨k + 1, by omega, by omega, by go_num, J.out⟩
    · have hltz : ¬ (k : Int) < (n : Int) := by omega
      obtain ⟨w6, hww6⟩ : ∃ x, x = wr := ⟨_, rfl⟩
      subst hww6
      have hb6 : Below w5.heap.size w5 w6 := I.out
      clear I hxl hyl
      have hz6 := hb6.size
      (try simp only [World.size_alloc, World.size_setCell, World.size_drew] at hz6)
      have hB1_6 : Below w1.heap.size w1 w6 := ub0 (hB1_5) hb6
      clear hB1_5
      have f6_b0_0 := up0 hb6 (by omega) f5_b0_0
      have f6_b0_1 := up0 hb6 (by omega) f5_b0_1
      have f6_b0_2 := up0 hb6 (by omega) f5_b0_2
      have f6_b0_3 := up0 hb6 (by omega) f5_b0_3
      have f6_b1_0 := up0 hb6 (by omega) f5_b1_0
      have f6_b1_1 := up0 hb6 (by omega) f5_b1_1
      have f6_b2_0 := up0 hb6 (by omega) f5_b2_0
      have f6_b2_1 := up0 hb6 (by omega) f5_b2_1
      have hB6 : Below w.heap.size w w6 := ub0 (hB5) hb6
      clear hb6 hB5 f5_b0_0 f5_b0_1 f5_b0_2 f5_b0_3 f5_b1_0 f5_b1_1 f5_b2_0 f5_b2_1
      have l6_0 : w.heap.size < w6.heap.size := by omega
      have l6_1 : w3.heap.size < w6.heap.size := by omega
      have l6_2 : w4.heap.size < w6.heap.size := by omega
      clear l5_0 l5_1 l5_2
      go_wp2_with fail
      refine (h6 _ (hx.below (hB6) (Nat.le_refl _))).mono ?_
      rintro e w7 ⟨rfl, hb7⟩
      have hz7 := hb7.size
      (try simp only [World.size_alloc, World.size_setCell, World.size_drew] at hz7)
      have hB1_7 : Below w1.heap.size w1 w7 := ub0 (hB1_6) hb7
      clear hB1_6
      have f7_b0_0 := up0 hb7 (by omega) f6_b0_0
      have f7_b0_1 := up0 hb7 (by omega) f6_b0_1
      have f7_b0_2 := up0 hb7 (by omega) f6_b0_2
      have f7_b0_3 := up0 hb7 (by omega) f6_b0_3
      have f7_b1_0 := up0 hb7 (by omega) f6_b1_0
      have f7_b1_1 := up0 hb7 (by omega) f6_b1_1
      have f7_b2_0 := up0 hb7 (by omega) f6_b2_0
      have f7_b2_1 := up0 hb7 (by omega) f6_b2_1
      have hB7 : Below w.heap.size w w7 := ub0 (hB6) hb7
      clear hb7 hB6 f6_b0_0 f6_b0_1 f6_b0_2 f6_b0_3 f6_b1_0 f6_b1_1 f6_b2_0 f6_b2_1
      have l7_0 : w.heap.size < w7.heap.size := by omega
      have l7_1 : w3.heap.size < w7.heap.size := by omega
      have l7_2 : w4.heap.size < w7.heap.size := by omega
      clear l6_0 l6_1 l6_2
      have G0 := (hB7.cell (p := ⟨b, o, none⟩) hlb).trans g0
      have G1 := (hB7.cell (p := ⟨b, o + (n - 1) * 2, none⟩) hlb).trans g1
      go_wp2_with fail
      go_quiet (fail)
      generalize hq8 : World.drewN w7 _ = w8
      have hb8 := drawnB hq8
      clear hq8
      have hz8 := hb8.size
      (try simp only [World.size_alloc, World.size_setCell, World.size_drew] at hz8)
      have hB1_8 : Below w1.heap.size w1 w8 := ub0 (hB1_7) hb8
      clear hB1_7
      have f8_b0_0 := up0 hb8 (by omega) f7_b0_0
      have f8_b0_1 := up0 hb8 (by omega) f7_b0_1
      have f8_b0_2 := up0 hb8 (by omega) f7_b0_2
      have f8_b0_3 := up0 hb8 (by omega) f7_b0_3
      have f8_b1_0 := up0 hb8 (by omega) f7_b1_0
      have f8_b1_1 := up0 hb8 (by omega) f7_b1_1
      have f8_b2_0 := up0 hb8 (by omega) f7_b2_0
      have f8_b2_1 := up0 hb8 (by omega) f7_b2_1
      have hB8 : Below w.heap.size w w8 := ub0 (hB7) hb8
      clear hb8 hB7 f7_b0_0 f7_b0_1 f7_b0_2 f7_b0_3 f7_b1_0 f7_b1_1 f7_b2_0 f7_b2_1
      have l8_0 : w.heap.size < w8.heap.size := by omega
      have l8_1 : w3.heap.size < w8.heap.size := by omega
      have l8_2 : w4.heap.size < w8.heap.size := by omega
      clear l7_0 l7_1 l7_2
      go_wp2_with fail
      refine (hIx _).mono ?_
      rintro e w9 ⟨rfl, hb9⟩
      have hz9 := hb9.size
      (try simp only [World.size_alloc, World.size_setCell, World.size_drew] at hz9)
      have hB1_9 : Below w1.heap.size w1 w9 := ub0 (hB1_8) hb9
      clear hB1_8
      have f9_b0_0 := up0 hb9 (by omega) f8_b0_0
      have f9_b0_1 := up0 hb9 (by omega) f8_b0_1
      have f9_b0_2 := up0 hb9 (by omega) f8_b0_2
      have f9_b0_3 := up0 hb9 (by omega) f8_b0_3
      have f9_b1_0 := up0 hb9 (by omega) f8_b1_0
      have f9_b1_1 := up0 hb9 (by omega) f8_b1_1
      have f9_b2_0 := up0 hb9 (by omega) f8_b2_0
      have f9_b2_1 := up0 hb9 (by omega) f8_b2_1
      have hB9 : Below w.heap.size w w9 := ub0 (hB8) hb9
      clear hb9 hB8 f8_b0_0 f8_b0_1 f8_b0_2 f8_b0_3 f8_b1_0 f8_b1_1 f8_b2_0 f8_b2_1
      have l9_0 : w.heap.size < w9.heap.size := by omega
      have l9_1 : w3.heap.size < w9.heap.size := by omega
      have l9_2 : w4.heap.size < w9.heap.size := by omega
      clear l8_0 l8_1 l8_2
      go_upto_region 21 with (fail)
      go_cut [132] (fun sx wx => sx = .bool false ∧ Aside (Below w9.heap.size w9 wx))
      case first =>
        first
        | go_region_with (first | (go_at_call 68; refine (h8 _ (hx.below ((by repeat (first | exact hB9 | exact Below.drew hB9 | exact Below.refl _ _ | (refine Below.alloc ?_ (by first | omega | (simp <;> omega)) _) | (refine Below.drew ?_)))) (Nat.le_refl _))).mono ?_; rintro e wc ⟨rfl, hbc⟩; have hTc : Below w9.heap.size w9 wc := below_call (by repeat (first | exact (Below.refl _ _) | exact Below.drew (Below.refl _ _) | exact Below.refl _ _ | (refine Below.alloc ?_ (by first | omega | (simp <;> omega)) _) | (refine Below.drew ?_))) hbc (by first | omega | (simp <;> omega)); have c_b0_0 : wc.cell? ⟨w.heap.size, 0, none⟩ = some (.int .i64 a0) := (hTc.cell (p := ⟨w.heap.size, 0, none⟩) (by show w.heap.size < _; omega)).trans f9_b0_0; have c_b0_1 : wc.cell? ⟨w.heap.size, 1, none⟩ = some (.int .i64 a1) := (hTc.cell (p := ⟨w.heap.size, 1, none⟩) (by show w.heap.size < _; omega)).trans f9_b0_1; have c_b0_2 : wc.cell? ⟨w.heap.size, 2, none⟩ = some (.int .i64 b0) := (hTc.cell (p := ⟨w.heap.size, 2, none⟩) (by show w.heap.size < _; omega)).trans f9_b0_2; have c_b0_3 : wc.cell? ⟨w.heap.size, 3, none⟩ = some (.int .i64 b1) := (hTc.cell (p := ⟨w.heap.size, 3, none⟩) (by show w.heap.size < _; omega)).trans f9_b0_3; have c_b1_0 : wc.cell? ⟨w3.heap.size, 0, none⟩ = some (.int .i64 v0) := (hTc.cell (p := ⟨w3.heap.size, 0, none⟩) (by show w3.heap.size < _; omega)).trans f9_b1_0; have c_b1_1 : wc.cell? ⟨w3.heap.size, 1, none⟩ = some (.int .i64 v1) := (hTc.cell (p := ⟨w3.heap.size, 1, none⟩) (by show w3.heap.size < _; omega)).trans f9_b1_1; have c_b2_0 : wc.cell? ⟨w4.heap.size, 0, none⟩ = some (.int .i64 0) := (hTc.cell (p := ⟨w4.heap.size, 0, none⟩) (by show w4.heap.size < _; omega)).trans f9_b2_0; have c_b2_1 : wc.cell? ⟨w4.heap.size, 1, none⟩ = some (.int .i64 0) := (hTc.cell (p := ⟨w4.heap.size, 1, none⟩) (by show w4.heap.size < _; omega)).trans f9_b2_1; clear hbc))
        | fail
        all_goals
          go_wp2_with fail
          go_meet
          exact ⟨rfl, (by (try show Below _ _ _); repeat (first | (with_reducible refine Below.setCell ?_ (by first | omega | (simp <;> omega)) _) | (with_reducible refine Below.alloc ?_ (by first | omega | (simp <;> omega)) _) | (with_reducible refine Below.drew ?_) | (with_reducible exact Below.refl _ _) | (with_reducible exact hTc) | (with_reducible refine below_call ?_ hTc (by first | omega | (simp <;> omega))) | (with_reducible refine below_call ?_ (Drew.below hTc _) (by first | omega | (simp <;> omega)))))⟩
      case rest =>
        obtain ⟨rfl, I⟩ := hcut
        obtain ⟨w10, hww10, hb10⟩ : ∃ x, x = _ ∧ Below w9.heap.size w9 x := ⟨_, rfl, I.out⟩
        subst hww10
        clear I
        have hz10 := hb10.size
        (try simp only [World.size_alloc, World.size_setCell, World.size_drew] at hz10)
        have hB1_10 : Below w1.heap.size w1 w10 := ub0 (hB1_9) hb10
        clear hB1_9
        have f10_b0_0 := up0 hb10 (by omega) f9_b0_0
        have f10_b0_1 := up0 hb10 (by omega) f9_b0_1
        have f10_b0_2 := up0 hb10 (by omega) f9_b0_2
        have f10_b0_3 := up0 hb10 (by omega) f9_b0_3
        have f10_b1_0 := up0 hb10 (by omega) f9_b1_0
        have f10_b1_1 := up0 hb10 (by omega) f9_b1_1
        have f10_b2_0 := up0 hb10 (by omega) f9_b2_0
        have f10_b2_1 := up0 hb10 (by omega) f9_b2_1
        have hB10 : Below w.heap.size w w10 := ub0 (hB9) hb10
        clear hb10 hB9 f9_b0_0 f9_b0_1 f9_b0_2 f9_b0_3 f9_b1_0 f9_b1_1 f9_b2_0 f9_b2_1
        have l10_0 : w.heap.size < w10.heap.size := by omega
        have l10_1 : w3.heap.size < w10.heap.size := by omega
        have l10_2 : w4.heap.size < w10.heap.size := by omega
        clear l9_0 l9_1 l9_2
        go_wp2_with fail
        refine (hRa _).mono ?_
        rintro e w11 ⟨rfl, hb11⟩
        have hz11 := hb11.size
        (try simp only [World.size_alloc, World.size_setCell, World.size_drew] at hz11)
        have hB1_11 : Below w1.heap.size w1 w11 := ub0 (hB1_10) hb11
        clear hB1_10
        have f11_b0_0 := up0 hb11 (by omega) f10_b0_0
        have f11_b0_1 := up0 hb11 (by omega) f10_b0_1
        have f11_b0_2 := up0 hb11 (by omega) f10_b0_2
        have f11_b0_3 := up0 hb11 (by omega) f10_b0_3
        have f11_b1_0 := up0 hb11 (by omega) f10_b1_0
        have f11_b1_1 := up0 hb11 (by omega) f10_b1_1
        have f11_b2_0 := up0 hb11 (by omega) f10_b2_0
        have f11_b2_1 := up0 hb11 (by omega) f10_b2_1
        have hB11 : Below w.heap.size w w11 := ub0 (hB10) hb11
        clear hb11 hB10 f10_b0_0 f10_b0_1 f10_b0_2 f10_b0_3 f10_b1_0 f10_b1_1 f10_b2_0 f10_b2_1
        have l11_0 : w.heap.size < w11.heap.size := by omega
        have l11_1 : w3.heap.size < w11.heap.size := by omega
        have l11_2 : w4.heap.size < w11.heap.size := by omega
        clear l10_0 l10_1 l10_2
        go_wp2_with fail
        refine (hIl _).mono ?_
        rintro e w12 ⟨rfl, hb12⟩
        have hz12 := hb12.size
        (try simp only [World.size_alloc, World.size_setCell, World.size_drew] at hz12)
        have hB1_12 : Below w1.heap.size w1 w12 := ub0 (hB1_11) hb12
        clear hB1_11
        have f12_b0_0 := up0 hb12 (by omega) f11_b0_0
        have f12_b0_1 := up0 hb12 (by omega) f11_b0_1
        have f12_b0_2 := up0 hb12 (by omega) f11_b0_2
        have f12_b0_3 := up0 hb12 (by omega) f11_b0_3
        have f12_b1_0 := up0 hb12 (by omega) f11_b1_0
        have f12_b1_1 := up0 hb12 (by omega) f11_b1_1
        have f12_b2_0 := up0 hb12 (by omega) f11_b2_0
        have f12_b2_1 := up0 hb12 (by omega) f11_b2_1
        have hB12 : Below w.heap.size w w12 := ub0 (hB11) hb12
        clear hb12 hB11 f11_b0_0 f11_b0_1 f11_b0_2 f11_b0_3 f11_b1_0 f11_b1_1 f11_b2_0 f11_b2_1
        have l12_0 : w.heap.size < w12.heap.size := by omega
        have l12_1 : w3.heap.size < w12.heap.size := by omega
        have l12_2 : w4.heap.size < w12.heap.size := by omega
        clear l11_0 l11_1 l11_2
        go_wp2_with fail
        refine (hRb _).mono ?_
        rintro e w13 ⟨rfl, hb13⟩
        have hz13 := hb13.size
        (try simp only [World.size_alloc, World.size_setCell, World.size_drew] at hz13)
        have hB1_13 : Below w1.heap.size w1 w13 := ub0 (hB1_12) hb13
        clear hB1_12
        have f13_b0_0 := up0 hb13 (by omega) f12_b0_0
        have f13_b0_1 := up0 hb13 (by omega) f12_b0_1
        have f13_b0_2 := up0 hb13 (by omega) f12_b0_2
        have f13_b0_3 := up0 hb13 (by omega) f12_b0_3
        have f13_b1_0 := up0 hb13 (by omega) f12_b1_0
        have f13_b1_1 := up0 hb13 (by omega) f12_b1_1
        have f13_b2_0 := up0 hb13 (by omega) f12_b2_0
        have f13_b2_1 := up0 hb13 (by omega) f12_b2_1
        have hB13 : Below w.heap.size w w13 := ub0 (hB12) hb13
        clear hb13 hB12 f12_b0_0 f12_b0_1 f12_b0_2 f12_b0_3 f12_b1_0 f12_b1_1 f12_b2_0 f12_b2_1
        have l13_0 : w.heap.size < w13.heap.size := by omega
        have l13_1 : w3.heap.size < w13.heap.size := by omega
        have l13_2 : w4.heap.size < w13.heap.size := by omega
        clear l12_0 l12_1 l12_2
        go_wp2_with fail
        refine (hk _).mono ?_
        rintro e w14 ⟨rfl, hb14⟩
        have hz14 := hb14.size
        (try simp only [World.size_alloc, World.size_setCell, World.size_drew] at hz14)
        have hB1_14 : Below w1.heap.size w1 w14 := ub0 (hB1_13) hb14
        clear hB1_13
        have f14_b0_0 := up0 hb14 (by omega) f13_b0_0
        have f14_b0_1 := up0 hb14 (by omega) f13_b0_1
        have f14_b0_2 := up0 hb14 (by omega) f13_b0_2
        have f14_b0_3 := up0 hb14 (by omega) f13_b0_3
        have f14_b1_0 := up0 hb14 (by omega) f13_b1_0
        have f14_b1_1 := up0 hb14 (by omega) f13_b1_1
        have f14_b2_0 := up0 hb14 (by omega) f13_b2_0
        have f14_b2_1 := up0 hb14 (by omega) f13_b2_1
        have hB14 : Below w.heap.size w w14 := ub0 (hB13) hb14
        clear hb14 hB13 f13_b0_0 f13_b0_1 f13_b0_2 f13_b0_3 f13_b1_0 f13_b1_1 f13_b2_0 f13_b2_1
        have l14_0 : w.heap.size < w14.heap.size := by omega
        have l14_1 : w3.heap.size < w14.heap.size := by omega
        have l14_2 : w4.heap.size < w14.heap.size := by omega
        clear l13_0 l13_1 l13_2
        go_wp2
        go_ret
        exact ⟨rfl, hB14⟩

set_option maxRecDepth 100000 in
set_option maxHeartbeats 4000000 in
theorem tabs_xin_alow_bok (A : Option Addr) (n c : Nat) (xs : List R) (x a0 a1 b0 b1 : Int) (w : World) (hl : PairList w A n c xs) (h : ¬ 80 < n) (ht : tableS xs = true) (hvx : valueIn xs x = true) (hoa : okR ⟨a0, a1⟩ = true) (hba : btw (firstX xs) (lastX xs) [a0, a1] = false) (hla : inS a0 (firstX xs) (lastX xs) = false) (hob : okR ⟨b0, b1⟩ = true) :
    Calls Try.prog 11 #[.slice A n c, .int .i64 x, .agg #[.int .i64 a0, .int .i64 a1, .int .i64 b0, .int .i64 b1]] w fun e w' => e = .returned (.bool true) ∧ Below w.heap.size w w' := by
  obtain ⟨hlen, hle, hmax, hnone, hx, -⟩ := hl
  have hk := fun W => known1_any W
  have hz : ¬ (80 : Int) < (n : Int) := by omega
  have h1 := fun W hx => copy_60 0 A n c xs W hx hlen hnone (by omega)
  have hn : Aside (xs.length = n) := hlen
  have hmn : n ≤ maxLen := by unfold maxLen; omega
  have h2 := fun lo A c W hx => CheckTable_any lo A n c xs W hx hn hmn
  have h3 := fun lo A c W hx => Value_any lo A n c xs x W hx hn hmn
  have h4 := fun lo A c W hx => Values_any lo A n c xs a0 a1 W hx hn hmn
  have h5 := fun lo A c W hx hnc hl => Where_any lo A n c xs b0 b1 W hx hn hnc hl
  have h6 := fun W hx => refTable_any 0 A n c xs W hx hn hmn
  obtain ⟨hr1, hr2, hr60⟩ := (tableS_iff xs).1 ht
  rw [ht] at h2 h6
  rw [if_pos rfl] at h2
  have hRa := fun W => refRange_any a0 a1 W
  have hRb := fun W => refRange_any b0 b1 W
  have hIx := fun W => (in_any x (firstX xs) (lastX xs) W).mono fun e w' h => (⟨h.1, h.2 ▸ Below.refl _ _⟩ : _ ∧ Below W.heap.size W w')
  rw [show valueS xs x = (valS xs x, 0) from (if_neg (by rw [ht]; decide)).trans (if_neg (by rw [hvx]; decide))] at h3
  have h8 := fun W hx => refValue_any 0 A n c xs x W hx hn ht hvx
  generalize valS xs x = v at h3 h8
  obtain ⟨v0, v1⟩ := v
  simp only at h8
  have hix : inS x (firstX xs) (lastX xs) = true := by rw [← hvx]; unfold inS valueIn btw; simp
  have hIl := fun W => (in_any a0 (firstX xs) (lastX xs) W).mono fun e w' h => (⟨h.1, h.2 ▸ Below.refl _ _⟩ : _ ∧ Below W.heap.size W w')
  have hIh := fun W => (in_any a1 (firstX xs) (lastX xs) W).mono fun e w' h => (⟨h.1, h.2 ▸ Below.refl _ _⟩ : _ ∧ Below W.heap.size W w')
  rw [show valuesS xs ⟨a0, a1⟩ = (⟨0, 0⟩, 3) from (if_neg (by rw [ht, hoa]; decide)).trans (if_pos hba)] at h4
  rw [hla] at hIl
  rw [show whereS xs ⟨b0, b1⟩ = (whF xs (clampY ⟨b0, b1⟩) (xs.length - 1), 0) from if_neg (by rw [ht, hob]; decide)] at h5
  have h7 := fun W hx => refWhere_any 0 A n c xs b0 b1 W hx hn ht hob
  have hl1 := wh_len xs (clampY ⟨b0, b1⟩) (xs.length - 1)
  generalize whF xs (clampY ⟨b0, b1⟩) (xs.length - 1) = W1 at h5 h7 hl1
  have hm1 : W1.length ≤ maxLen := by unfold maxLen; omega
  have h10 := fun lo1 lo2 A1 c1 A2 c2 W hx hy => (same_self lo1 lo2 A1 c1 A2 W1.length c2 W1 W hx hy rfl hm1).mono fun e w' h => (⟨h.1, drew_all h.2⟩ : _ ∧ Below W.heap.size W w')
  clear hl1
  rw [hix] at hIx
  rw [hoa] at hRa
  rw [hob] at hRb
  simp only [RE] at h3 h4
  obtain ⟨b, o, rfl, _, hlb, hc⟩ := hx (by omega)
  have g0 := hc 0 0 (by omega) (by omega)
  have g1 := hc (n - 1) 0 (by omega) (by omega)
  clear hc
  rw [show (xs[n - 1]?.getD R.d) = (xs[xs.length - 1]?.getD R.d) by rw [hlen]] at g1
  rw [show R.cell (xs[0]?.getD R.d) 0 = .int .i64 (firstX xs) from rfl] at g0
  rw [show R.cell (xs[xs.length - 1]?.getD R.d) 0 = .int .i64 (lastX xs) from rfl] at g1
  simp only [Nat.zero_mul, Nat.add_zero] at g0 g1
  clear hr1 ht hix hoa hob hvx hba hla
  generalize firstX xs = fx at *
  generalize lastX xs = lx at *
  have hwn : IntKind.i64.wrap ((n : Int) - 1) = ((n - 1 : Nat) : Int) := by rw [IntKind.wrap_i64]; omega
  have hwn0 : (0 : Int) ≤ ((n - 1 : Nat) : Int) := by omega
  have hwn1 : ((n - 1 : Nat) : Int) < (n : Int) := by omega
  have hnp : (0 : Int) < (n : Int) := by omega
  have hn1 : n - 1 < n := by omega
  have hn0 : 0 < n := by omega
  clear hlen hnone
  unfold maxLen at hmax
  go_enter Try.func11, Try.ntmps11
  go_wp2_with fail
  refine (h1 _ (hx.below (ua1 (Below.refl _ _)) (Nat.le_refl _))).mono ?_
  rintro e w1 ⟨A2, c2, rfl, hc2, hm2, hy, hb1⟩
  replace hy := hy.mono (Nat.zero_le _)
  have hz1 := hb1.size
  (try simp only [World.size_alloc, World.size_setCell, World.size_drew] at hz1)
  have f1_b0_0 : w1.cell? ⟨w.heap.size, 0, none⟩ = some (.int .i64 a0) := (hb1.cell (p := ⟨w.heap.size, 0, none⟩) (by show w.heap.size < _; first | omega | (simp only [World.size_alloc, World.size_setCell, World.size_drew]; omega))).trans (by simp [go_sem, cell_set])
  have f1_b0_1 : w1.cell? ⟨w.heap.size, 1, none⟩ = some (.int .i64 a1) := (hb1.cell (p := ⟨w.heap.size, 1, none⟩) (by show w.heap.size < _; first | omega | (simp only [World.size_alloc, World.size_setCell, World.size_drew]; omega))).trans (by simp [go_sem, cell_set])
  have f1_b0_2 : w1.cell? ⟨w.heap.size, 2, none⟩ = some (.int .i64 b0) := (hb1.cell (p := ⟨w.heap.size, 2, none⟩) (by show w.heap.size < _; first | omega | (simp only [World.size_alloc, World.size_setCell, World.size_drew]; omega))).trans (by simp [go_sem, cell_set])
  have f1_b0_3 : w1.cell? ⟨w.heap.size, 3, none⟩ = some (.int .i64 b1) := (hb1.cell (p := ⟨w.heap.size, 3, none⟩) (by show w.heap.size < _; first | omega | (simp only [World.size_alloc, World.size_setCell, World.size_drew]; omega))).trans (by simp [go_sem, cell_set])
  have hB1 : Below w.heap.size w w1 := ub1 (Below.refl _ _) hb1
  clear hb1 
  have l1_0 : w.heap.size < w1.heap.size := by omega
  go_wp2_with fail
  refine (h2 _ _ _ _ (hy.below (Below.refl _ _) (Nat.le_refl _))).mono ?_
  rintro e w2 ⟨rfl, hb2⟩
  have hz2 := hb2.size
  (try simp only [World.size_alloc, World.size_setCell, World.size_drew] at hz2)
  have hB1_2 : Below w1.heap.size w1 w2 := ub0 (Below.refl _ _) hb2
  have f2_b0_0 := up0 hb2 (by omega) f1_b0_0
  have f2_b0_1 := up0 hb2 (by omega) f1_b0_1
  have f2_b0_2 := up0 hb2 (by omega) f1_b0_2
  have f2_b0_3 := up0 hb2 (by omega) f1_b0_3
  have hB2 : Below w.heap.size w w2 := ub0 (hB1) hb2
  clear hb2 hB1 f1_b0_0 f1_b0_1 f1_b0_2 f1_b0_3
  have l2_0 : w.heap.size < w2.heap.size := by omega
  clear l1_0
  go_wp2_with fail
  refine (h3 _ _ _ _ (hy.below (hB1_2) (Nat.le_refl _))).mono ?_
  rintro e w3 ⟨rfl, hb3⟩
  have hz3 := hb3.size
  (try simp only [World.size_alloc, World.size_setCell, World.size_drew] at hz3)
  have hB1_3 : Below w1.heap.size w1 w3 := ub0 (hB1_2) hb3
  clear hB1_2
  have f3_b0_0 := up0 hb3 (by omega) f2_b0_0
  have f3_b0_1 := up0 hb3 (by omega) f2_b0_1
  have f3_b0_2 := up0 hb3 (by omega) f2_b0_2
  have f3_b0_3 := up0 hb3 (by omega) f2_b0_3
  have hB3 : Below w.heap.size w w3 := ub0 (hB2) hb3
  clear hb3 hB2 f2_b0_0 f2_b0_1 f2_b0_2 f2_b0_3
  have l3_0 : w.heap.size < w3.heap.size := by omega
  clear l2_0
  go_wp2_with fail
  refine (h4 _ _ _ _ (hy.below (ua1 (hB1_3)) (Nat.le_refl _))).mono ?_
  rintro e w4 ⟨rfl, hb4⟩
  have hz4 := hb4.size
  (try simp only [World.size_alloc, World.size_setCell, World.size_drew] at hz4)
  have hB1_4 : Below w1.heap.size w1 w4 := ub1 (hB1_3) hb4
  clear hB1_3
  have f4_b0_0 := up1 hb4 (by omega) f3_b0_0
  have f4_b0_1 := up1 hb4 (by omega) f3_b0_1
  have f4_b0_2 := up1 hb4 (by omega) f3_b0_2
  have f4_b0_3 := up1 hb4 (by omega) f3_b0_3
  have f4_b1_0 : w4.cell? ⟨w3.heap.size, 0, none⟩ = some (.int .i64 v0) := (hb4.cell (p := ⟨w3.heap.size, 0, none⟩) (by show w3.heap.size < _; first | omega | (simp only [World.size_alloc, World.size_setCell, World.size_drew]; omega))).trans (by simp [go_sem, cell_set])
  have f4_b1_1 : w4.cell? ⟨w3.heap.size, 1, none⟩ = some (.int .i64 v1) := (hb4.cell (p := ⟨w3.heap.size, 1, none⟩) (by show w3.heap.size < _; first | omega | (simp only [World.size_alloc, World.size_setCell, World.size_drew]; omega))).trans (by simp [go_sem, cell_set])
  have hB4 : Below w.heap.size w w4 := ub1 (hB3) hb4
  clear hb4 hB3 f3_b0_0 f3_b0_1 f3_b0_2 f3_b0_3
  have l4_0 : w.heap.size < w4.heap.size := by omega
  have l4_1 : w3.heap.size < w4.heap.size := by omega
  clear l3_0
  go_wp2_with fail
  refine (h5 _ _ _ _ (hy.below (ua1 (hB1_4)) (Nat.le_refl _)) hc2 hm2).mono ?_
  rintro e w5 ⟨v2, rfl, ho2, -, hb5⟩
  obtain ⟨Ahw, chw, hvw, -, -, hw⟩ := ho2.reads
  subst hvw
  clear ho2
  have hz5 := hb5.size
  (try simp only [World.size_alloc, World.size_setCell, World.size_drew] at hz5)
  have hB1_5 : Below w1.heap.size w1 w5 := ub1 (hB1_4) hb5
  clear hB1_4
  have f5_b0_0 := up1 hb5 (by omega) f4_b0_0
  have f5_b0_1 := up1 hb5 (by omega) f4_b0_1
  have f5_b0_2 := up1 hb5 (by omega) f4_b0_2
  have f5_b0_3 := up1 hb5 (by omega) f4_b0_3
  have f5_b1_0 := up1 hb5 (by omega) f4_b1_0
  have f5_b1_1 := up1 hb5 (by omega) f4_b1_1
  have f5_b2_0 : w5.cell? ⟨w4.heap.size, 0, none⟩ = some (.int .i64 0) := (hb5.cell (p := ⟨w4.heap.size, 0, none⟩) (by show w4.heap.size < _; first | omega | (simp only [World.size_alloc, World.size_setCell, World.size_drew]; omega))).trans (by simp [go_sem, cell_set])
  have f5_b2_1 : w5.cell? ⟨w4.heap.size, 1, none⟩ = some (.int .i64 0) := (hb5.cell (p := ⟨w4.heap.size, 1, none⟩) (by show w4.heap.size < _; first | omega | (simp only [World.size_alloc, World.size_setCell, World.size_drew]; omega))).trans (by simp [go_sem, cell_set])
  have hB5 : Below w.heap.size w w5 := ub1 (hB4) hb5
  clear hb5 hB4 f4_b0_0 f4_b0_1 f4_b0_2 f4_b0_3 f4_b1_0 f4_b1_1
  have l5_0 : w.heap.size < w5.heap.size := by omega
  have l5_1 : w3.heap.size < w5.heap.size := by omega
  have l5_2 : w4.heap.size < w5.heap.size := by omega
  clear l4_0 l4_1
  go_wp2_with fail
  have hxl : Ranges w5 0 _ xs := (hx.below (hB5) (Nat.le_refl _))
  have hyl : Ranges w5 0 A2 xs := (hy.below (hB1_5) (Nat.le_refl _))
  go_loopg [15] (n) (fun gg i wr => ∃ k : Nat, k ≤ n ∧ n - k ≤ gg ∧ i = .int .i64 k ∧ Aside (Below w5.heap.size w5 wr))
  case atStart => exact ⟨0, Nat.zero_le _, Nat.le_refl _, rfl, Below.refl _ _⟩
  case round =>
    obtain ⟨k, hk', hg, rfl, I⟩ := hrel
    by_cases hlt : k < n
    · obtain ⟨bb1, o1, hA1, _, hlb1, hc1⟩ := hxl (by have := hn.out; omega)
      injection hA1 with hA1
      injection hA1 with hA2 hA3
      subst hA2
      subst hA3
      obtain ⟨b2, o2, rfl, _, hlb2, hc2'⟩ := hyl (by have := hn.out; omega)
      have x0 := (I.out.cell (p := ⟨b, o + k * 2 + 0, none⟩) hlb1).trans (hc1 k 0 (by have := hn.out; omega) (by omega))
      have x1 := (I.out.cell (p := ⟨b, o + k * 2 + 1, none⟩) hlb1).trans (hc1 k 1 (by have := hn.out; omega) (by omega))
      have y0 := (I.out.cell (p := ⟨b2, o2 + k * 2 + 0, none⟩) hlb2).trans (hc2' k 0 (by have := hn.out; omega) (by omega))
      have y1 := (I.out.cell (p := ⟨b2, o2 + k * 2 + 1, none⟩) hlb2).trans (hc2' k 1 (by have := hn.out; omega) (by omega))
      clear hc1 hc2' hx hy hxl hyl
      generalize xs[k]?.getD R.d = r at x0 x1 y0 y1
      obtain ⟨r0, r1⟩ := r
      simp only [R.cell, Nat.add_zero, if_true, Nat.one_ne_zero, if_false] at x0 x1 y0 y1
      have hltz : (k : Int) < (n : Int) := by omega
      have hk0 : (0 : Int) ≤ (k : Int) := by omega
      go_wp2_with fail
      go_quiet (fail)
      generalize hq : World.drewN wr _ = wd
      have hD := drawnB hq
      have J := Lib.hid (I.out.trans (hD.mono (by have := I.out.size; omega)))
      clear hq hD I
      go_wp2
      go_roundg (n - (k + 1))
      case measure => omega
      case rel => exact ⟨k + 1, by omega, by omega, by go_num, J.out⟩
    · have hltz : ¬ (k : Int) < (n : Int) := by omega
      obtain ⟨w6, hww6⟩ : ∃ x, x = wr := ⟨_, rfl⟩
      subst hww6
      have hb6 : Below w5.heap.size w5 w6 := I.out
      clear I hxl hyl
      have hz6 := hb6.size
      (try simp only [World.size_alloc, World.size_setCell, World.size_drew] at hz6)
      have hB1_6 : Below w1.heap.size w1 w6 := ub0 (hB1_5) hb6
      clear hB1_5
      have hB5_6 : Below w5.heap.size w5 w6 := ub0 (Below.refl _ _) hb6
      have f6_b0_0 := up0 hb6 (by omega) f5_b0_0
      have f6_b0_1 := up0 hb6 (by omega) f5_b0_1
      have f6_b0_2 := up0 hb6 (by omega) f5_b0_2
      have f6_b0_3 := up0 hb6 (by omega) f5_b0_3
      have f6_b1_0 := up0 hb6 (by omega) f5_b1_0
      have f6_b1_1 := up0 hb6 (by omega) f5_b1_1
      have f6_b2_0 := up0 hb6 (by omega) f5_b2_0
      have f6_b2_1 := up0 hb6 (by omega) f5_b2_1
      have hB6 : Below w.heap.size w w6 := ub0 (hB5) hb6
      clear hb6 hB5 f5_b0_0 f5_b0_1 f5_b0_2 f5_b0_3 f5_b1_0 f5_b1_1 f5_b2_0 f5_b2_1
      have l6_0 : w.heap.size < w6.heap.size := by omega
      have l6_1 : w3.heap.size < w6.heap.size := by omega
      have l6_2 : w4.heap.size < w6.heap.size := by omega
      clear l5_0 l5_1 l5_2
      go_wp2_with fail
      refine (h6 _ (hx.below (hB6) (Nat.le_refl _))).mono ?_
      rintro e w7 ⟨rfl, hb7⟩
      have hz7 := hb7.size
      (try simp only [World.size_alloc, World.size_setCell, World.size_drew] at hz7)
      have hB1_7 : Below w1.heap.size w1 w7 := ub0 (hB1_6) hb7
      clear hB1_6
      have hB5_7 : Below w5.heap.size w5 w7 := ub0 (hB5_6) hb7
      clear hB5_6
      have f7_b0_0 := up0 hb7 (by omega) f6_b0_0
      have f7_b0_1 := up0 hb7 (by omega) f6_b0_1
      have f7_b0_2 := up0 hb7 (by omega) f6_b0_2
      have f7_b0_3 := up0 hb7 (by omega) f6_b0_3
      have f7_b1_0 := up0 hb7 (by omega) f6_b1_0
      have f7_b1_1 := up0 hb7 (by omega) f6_b1_1
      have f7_b2_0 := up0 hb7 (by omega) f6_b2_0
      have f7_b2_1 := up0 hb7 (by omega) f6_b2_1
      have hB7 : Below w.heap.size w w7 := ub0 (hB6) hb7
      clear hb7 hB6 f6_b0_0 f6_b0_1 f6_b0_2 f6_b0_3 f6_b1_0 f6_b1_1 f6_b2_0 f6_b2_1
      have l7_0 : w.heap.size < w7.heap.size := by omega
      have l7_1 : w3.heap.size < w7.heap.size := by omega
      have l7_2 : w4.heap.size < w7.heap.size := by omega
      clear l6_0 l6_1 l6_2
      have G0 := (hB7.cell (p := ⟨b, o, none⟩) hlb).trans g0
      have G1 := (hB7.cell (p := ⟨b, o + (n - 1) * 2, none⟩) hlb).trans g1
      go_wp2_with fail
      go_quiet (fail)
      generalize hq8 : World.drewN w7 _ = w8
      have hb8 := drawnB hq8
      clear hq8
      have hz8 := hb8.size
      (try simp only [World.size_alloc, World.size_setCell, World.size_drew] at hz8)
      have hB1_8 : Below w1.heap.size w1 w8 := ub0 (hB1_7) hb8
      clear hB1_7
      have hB5_8 : Below w5.heap.size w5 w8 := ub0 (hB5_7) hb8
      clear hB5_7
      have f8_b0_0 := up0 hb8 (by omega) f7_b0_0
      have f8_b0_1 := up0 hb8 (by omega) f7_b0_1
      have f8_b0_2 := up0 hb8 (by omega) f7_b0_2
      have f8_b0_3 := up0 hb8 (by omega) f7_b0_3
      have f8_b1_0 := up0 hb8 (by omega) f7_b1_0
      have f8_b1_1 := up0 hb8 (by omega) f7_b1_1
      have f8_b2_0 := up0 hb8 (by omega) f7_b2_0
      have f8_b2_1 := up0 hb8 (by omega) f7_b2_1
      have hB8 : Below w.heap.size w w8 := ub0 (hB7) hb8
      clear hb8 hB7 f7_b0_0 f7_b0_1 f7_b0_2 f7_b0_3 f7_b1_0 f7_b1_1 f7_b2_0 f7_b2_1
      have l8_0 : w.heap.size < w8.heap.size := by omega
      have l8_1 : w3.heap.size < w8.heap.size := by omega
      have l8_2 : w4.heap.size < w8.heap.size := by omega
      clear l7_0 l7_1 l7_2
      go_wp2_with fail
      refine (hIx _).mono ?_
      rintro e w9 ⟨rfl, hb9⟩
      have hz9 := hb9.size
      (try simp only [World.size_alloc, World.size_setCell, World.size_drew] at hz9)
      have hB1_9 : Below w1.heap.size w1 w9 := ub0 (hB1_8) hb9
      clear hB1_8
      have hB5_9 : Below w5.heap.size w5 w9 := ub0 (hB5_8) hb9
      clear hB5_8
      have f9_b0_0 := up0 hb9 (by omega) f8_b0_0
      have f9_b0_1 := up0 hb9 (by omega) f8_b0_1
      have f9_b0_2 := up0 hb9 (by omega) f8_b0_2
      have f9_b0_3 := up0 hb9 (by omega) f8_b0_3
      have f9_b1_0 := up0 hb9 (by omega) f8_b1_0
      have f9_b1_1 := up0 hb9 (by omega) f8_b1_1
      have f9_b2_0 := up0 hb9 (by omega) f8_b2_0
      have f9_b2_1 := up0 hb9 (by omega) f8_b2_1
      have hB9 : Below w.heap.size w w9 := ub0 (hB8) hb9
      clear hb9 hB8 f8_b0_0 f8_b0_1 f8_b0_2 f8_b0_3 f8_b1_0 f8_b1_1 f8_b2_0 f8_b2_1
      have l9_0 : w.heap.size < w9.heap.size := by omega
      have l9_1 : w3.heap.size < w9.heap.size := by omega
      have l9_2 : w4.heap.size < w9.heap.size := by omega
      clear l8_0 l8_1 l8_2
      go_upto_region 21 with (fail)
      go_cut [132] (fun sx wx => sx = .bool false ∧ Aside (Below w9.heap.size w9 wx))
      case first =>
        first
        | go_region_with (first | (go_at_call 68; refine (h8 _ (hx.below ((by repeat (first | exact hB9 | exact Below.drew hB9 | exact Below.refl _ _ | (refine Below.alloc ?_ (by first | omega | (simp <;> omega)) _) | (refine Below.drew ?_)))) (Nat.le_refl _))).mono ?_; rintro e wc ⟨rfl, hbc⟩; have hTc : Below w9.heap.size w9 wc := below_call (by repeat (first | exact (Below.refl _ _) | exact Below.drew (Below.refl _ _) | exact Below.refl _ _ | (refine Below.alloc ?_ (by first | omega | (simp <;> omega)) _) | (refine Below.drew ?_))) hbc (by first | omega | (simp <;> omega)); have c_b0_0 : wc.cell? ⟨w.heap.size, 0, none⟩ = some (.int .i64 a0) := (hTc.cell (p := ⟨w.heap.size, 0, none⟩) (by show w.heap.size < _; omega)).trans f9_b0_0; have c_b0_1 : wc.cell? ⟨w.heap.size, 1, none⟩ = some (.int .i64 a1) := (hTc.cell (p := ⟨w.heap.size, 1, none⟩) (by show w.heap.size < _; omega)).trans f9_b0_1; have c_b0_2 : wc.cell? ⟨w.heap.size, 2, none⟩ = some (.int .i64 b0) := (hTc.cell (p := ⟨w.heap.size, 2, none⟩) (by show w.heap.size < _; omega)).trans f9_b0_2; have c_b0_3 : wc.cell? ⟨w.heap.size, 3, none⟩ = some (.int .i64 b1) := (hTc.cell (p := ⟨w.heap.size, 3, none⟩) (by show w.heap.size < _; omega)).trans f9_b0_3; have c_b1_0 : wc.cell? ⟨w3.heap.size, 0, none⟩ = some (.int .i64 v0) := (hTc.cell (p := ⟨w3.heap.size, 0, none⟩) (by show w3.heap.size < _; omega)).trans f9_b1_0; have c_b1_1 : wc.cell? ⟨w3.heap.size, 1, none⟩ = some (.int .i64 v1) := (hTc.cell (p := ⟨w3.heap.size, 1, none⟩) (by show w3.heap.size < _; omega)).trans f9_b1_1; have c_b2_0 : wc.cell? ⟨w4.heap.size, 0, none⟩ = some (.int .i64 0) := (hTc.cell (p := ⟨w4.heap.size, 0, none⟩) (by show w4.heap.size < _; omega)).trans f9_b2_0; have c_b2_1 : wc.cell? ⟨w4.heap.size, 1, none⟩ = some (.int .i64 0) := (hTc.cell (p := ⟨w4.heap.size, 1, none⟩) (by show w4.heap.size < _; omega)).trans f9_b2_1; clear hbc))
        | fail
        all_goals
          go_wp2_with fail
          go_meet
          exact ⟨rfl, (by (try show Below _ _ _); repeat (first | (with_reducible refine Below.setCell ?_ (by first | omega | (simp <;> omega)) _) | (with_reducible refine Below.alloc ?_ (by first | omega | (simp <;> omega)) _) | (with_reducible refine Below.drew ?_) | (with_reducible exact Below.refl _ _) | (with_reducible exact hTc) | (with_reducible refine below_call ?_ hTc (by first | omega | (simp <;> omega))) | (with_reducible refine below_call ?_ (Drew.below hTc _) (by first | omega | (simp <;> omega)))))⟩
      case rest =>
        obtain ⟨rfl, I⟩ := hcut
        obtain ⟨w10, hww10, hb10⟩ : ∃ x, x = _ ∧ Below w9.heap.size w9 x := ⟨_, rfl, I.out⟩
        subst hww10
        clear I
        have hz10 := hb10.size
        (try simp only [World.size_alloc, World.size_setCell, World.size_drew] at hz10)
        have hB1_10 : Below w1.heap.size w1 w10 := ub0 (hB1_9) hb10
        clear hB1_9
        have hB5_10 : Below w5.heap.size w5 w10 := ub0 (hB5_9) hb10
        clear hB5_9
        have f10_b0_0 := up0 hb10 (by omega) f9_b0_0
        have f10_b0_1 := up0 hb10 (by omega) f9_b0_1
        have f10_b0_2 := up0 hb10 (by omega) f9_b0_2
        have f10_b0_3 := up0 hb10 (by omega) f9_b0_3
        have f10_b1_0 := up0 hb10 (by omega) f9_b1_0
        have f10_b1_1 := up0 hb10 (by omega) f9_b1_1
        have f10_b2_0 := up0 hb10 (by omega) f9_b2_0
        have f10_b2_1 := up0 hb10 (by omega) f9_b2_1
        have hB10 : Below w.heap.size w w10 := ub0 (hB9) hb10
        clear hb10 hB9 f9_b0_0 f9_b0_1 f9_b0_2 f9_b0_3 f9_b1_0 f9_b1_1 f9_b2_0 f9_b2_1
        have l10_0 : w.heap.size < w10.heap.size := by omega
        have l10_1 : w3.heap.size < w10.heap.size := by omega
        have l10_2 : w4.heap.size < w10.heap.size := by omega
        clear l9_0 l9_1 l9_2
        go_wp2_with fail
        refine (hRa _).mono ?_
        rintro e w11 ⟨rfl, hb11⟩
        have hz11 := hb11.size
        (try simp only [World.size_alloc, World.size_setCell, World.size_drew] at hz11)
        have hB1_11 : Below w1.heap.size w1 w11 := ub0 (hB1_10) hb11
        clear hB1_10
        have hB5_11 : Below w5.heap.size w5 w11 := ub0 (hB5_10) hb11
        clear hB5_10
        have f11_b0_0 := up0 hb11 (by omega) f10_b0_0
        have f11_b0_1 := up0 hb11 (by omega) f10_b0_1
        have f11_b0_2 := up0 hb11 (by omega) f10_b0_2
        have f11_b0_3 := up0 hb11 (by omega) f10_b0_3
        have f11_b1_0 := up0 hb11 (by omega) f10_b1_0
        have f11_b1_1 := up0 hb11 (by omega) f10_b1_1
        have f11_b2_0 := up0 hb11 (by omega) f10_b2_0
        have f11_b2_1 := up0 hb11 (by omega) f10_b2_1
        have hB11 : Below w.heap.size w w11 := ub0 (hB10) hb11
        clear hb11 hB10 f10_b0_0 f10_b0_1 f10_b0_2 f10_b0_3 f10_b1_0 f10_b1_1 f10_b2_0 f10_b2_1
        have l11_0 : w.heap.size < w11.heap.size := by omega
        have l11_1 : w3.heap.size < w11.heap.size := by omega
        have l11_2 : w4.heap.size < w11.heap.size := by omega
        clear l10_0 l10_1 l10_2
        go_wp2_with fail
        refine (hIl _).mono ?_
        rintro e w12 ⟨rfl, hb12⟩
        have hz12 := hb12.size
        (try simp only [World.size_alloc, World.size_setCell, World.size_drew] at hz12)
        have hB1_12 : Below w1.heap.size w1 w12 := ub0 (hB1_11) hb12
        clear hB1_11
        have hB5_12 : Below w5.heap.size w5 w12 := ub0 (hB5_11) hb12
        clear hB5_11
        have f12_b0_0 := up0 hb12 (by omega) f11_b0_0
        have f12_b0_1 := up0 hb12 (by omega) f11_b0_1
        have f12_b0_2 := up0 hb12 (by omega) f11_b0_2
        have f12_b0_3 := up0 hb12 (by omega) f11_b0_3
        have f12_b1_0 := up0 hb12 (by omega) f11_b1_0
        have f12_b1_1 := up0 hb12 (by omega) f11_b1_1
        have f12_b2_0 := up0 hb12 (by omega) f11_b2_0
        have f12_b2_1 := up0 hb12 (by omega) f11_b2_1
        have hB12 : Below w.heap.size w w12 := ub0 (hB11) hb12
        clear hb12 hB11 f11_b0_0 f11_b0_1 f11_b0_2 f11_b0_3 f11_b1_0 f11_b1_1 f11_b2_0 f11_b2_1
        have l12_0 : w.heap.size < w12.heap.size := by omega
        have l12_1 : w3.heap.size < w12.heap.size := by omega
        have l12_2 : w4.heap.size < w12.heap.size := by omega
        clear l11_0 l11_1 l11_2
        go_wp2_with fail
        refine (hRb _).mono ?_
        rintro e w13 ⟨rfl, hb13⟩
        have hz13 := hb13.size
        (try simp only [World.size_alloc, World.size_setCell, World.size_drew] at hz13)
        have hB1_13 : Below w1.heap.size w1 w13 := ub0 (hB1_12) hb13
        clear hB1_12
        have hB5_13 : Below w5.heap.size w5 w13 := ub0 (hB5_12) hb13
        clear hB5_12
        have f13_b0_0 := up0 hb13 (by omega) f12_b0_0
        have f13_b0_1 := up0 hb13 (by omega) f12_b0_1
        have f13_b0_2 := up0 hb13 (by omega) f12_b0_2
        have f13_b0_3 := up0 hb13 (by omega) f12_b0_3
        have f13_b1_0 := up0 hb13 (by omega) f12_b1_0
        have f13_b1_1 := up0 hb13 (by omega) f12_b1_1
        have f13_b2_0 := up0 hb13 (by omega) f12_b2_0
        have f13_b2_1 := up0 hb13 (by omega) f12_b2_1
        have hB13 : Below w.heap.size w w13 := ub0 (hB12) hb13
        clear hb13 hB12 f12_b0_0 f12_b0_1 f12_b0_2 f12_b0_3 f12_b1_0 f12_b1_1 f12_b2_0 f12_b2_1
        have l13_0 : w.heap.size < w13.heap.size := by omega
        have l13_1 : w3.heap.size < w13.heap.size := by omega
        have l13_2 : w4.heap.size < w13.heap.size := by omega
        clear l12_0 l12_1 l12_2
        go_wp2_with fail
        refine (h7 _ (hx.below (hB13) (Nat.le_refl _))).mono ?_
        rintro e w14 ⟨Ahr, chr, rfl, hr, hb14⟩
        have hz14 := hb14.size
        (try simp only [World.size_alloc, World.size_setCell, World.size_drew] at hz14)
        have hB1_14 : Below w1.heap.size w1 w14 := ub0 (hB1_13) hb14
        clear hB1_13
        have hB5_14 : Below w5.heap.size w5 w14 := ub0 (hB5_13) hb14
        clear hB5_13
        have f14_b0_0 := up0 hb14 (by omega) f13_b0_0
        have f14_b0_1 := up0 hb14 (by omega) f13_b0_1
        have f14_b0_2 := up0 hb14 (by omega) f13_b0_2
        have f14_b0_3 := up0 hb14 (by omega) f13_b0_3
        have f14_b1_0 := up0 hb14 (by omega) f13_b1_0
        have f14_b1_1 := up0 hb14 (by omega) f13_b1_1
        have f14_b2_0 := up0 hb14 (by omega) f13_b2_0
        have f14_b2_1 := up0 hb14 (by omega) f13_b2_1
        have hB14 : Below w.heap.size w w14 := ub0 (hB13) hb14
        clear hb14 hB13 f13_b0_0 f13_b0_1 f13_b0_2 f13_b0_3 f13_b1_0 f13_b1_1 f13_b2_0 f13_b2_1
        have l14_0 : w.heap.size < w14.heap.size := by omega
        have l14_1 : w3.heap.size < w14.heap.size := by omega
        have l14_2 : w4.heap.size < w14.heap.size := by omega
        clear l13_0 l13_1 l13_2
        go_wp2_with fail
        refine (h10 _ _ _ _ _ _ _ (hw.below (hB5_14) (Nat.le_refl _)) (hr.below (Below.refl _ _) (Nat.le_refl _))).mono ?_
        rintro e w15 ⟨rfl, hb15⟩
        have hz15 := hb15.size
        (try simp only [World.size_alloc, World.size_setCell, World.size_drew] at hz15)
        have hB1_15 : Below w1.heap.size w1 w15 := ub0 (hB1_14) hb15
        clear hB1_14
        have hB5_15 : Below w5.heap.size w5 w15 := ub0 (hB5_14) hb15
        clear hB5_14
        have hB14_15 : Below w14.heap.size w14 w15 := ub0 (Below.refl _ _) hb15
        have f15_b0_0 := up0 hb15 (by omega) f14_b0_0
        have f15_b0_1 := up0 hb15 (by omega) f14_b0_1
        have f15_b0_2 := up0 hb15 (by omega) f14_b0_2
        have f15_b0_3 := up0 hb15 (by omega) f14_b0_3
        have f15_b1_0 := up0 hb15 (by omega) f14_b1_0
        have f15_b1_1 := up0 hb15 (by omega) f14_b1_1
        have f15_b2_0 := up0 hb15 (by omega) f14_b2_0
        have f15_b2_1 := up0 hb15 (by omega) f14_b2_1
        have hB15 : Below w.heap.size w w15 := ub0 (hB14) hb15
        clear hb15 hB14 f14_b0_0 f14_b0_1 f14_b0_2 f14_b0_3 f14_b1_0 f14_b1_1 f14_b2_0 f14_b2_1
        have l15_0 : w.heap.size < w15.heap.size := by omega
        have l15_1 : w3.heap.size < w15.heap.size := by omega
        have l15_2 : w4.heap.size < w15.heap.size := by omega
        clear l14_0 l14_1 l14_2
        go_wp2_with fail
        refine (hk _).mono ?_
        rintro e w16 ⟨rfl, hb16⟩
        have hz16 := hb16.size
        (try simp only [World.size_alloc, World.size_setCell, World.size_drew] at hz16)
        have hB1_16 : Below w1.heap.size w1 w16 := ub0 (hB1_15) hb16
        clear hB1_15
        have hB5_16 : Below w5.heap.size w5 w16 := ub0 (hB5_15) hb16
        clear hB5_15
        have hB14_16 : Below w14.heap.size w14 w16 := ub0 (hB14_15) hb16
        clear hB14_15
        have f16_b0_0 := up0 hb16 (by omega) f15_b0_0
        have f16_b0_1 := up0 hb16 (by omega) f15_b0_1
        have f16_b0_2 := up0 hb16 (by omega) f15_b0_2
        have f16_b0_3 := up0 hb16 (by omega) f15_b0_3
        have f16_b1_0 := up0 hb16 (by omega) f15_b1_0
        have f16_b1_1 := up0 hb16 (by omega) f15_b1_1
        have f16_b2_0 := up0 hb16 (by omega) f15_b2_0
        have f16_b2_1 := up0 hb16 (by omega) f15_b2_1
        have hB16 : Below w.heap.size w w16 := ub0 (hB15) hb16
        clear hb16 hB15 f15_b0_0 f15_b0_1 f15_b0_2 f15_b0_3 f15_b1_0 f15_b1_1 f15_b2_0 f15_b2_1
        have l16_0 : w.heap.size < w16.heap.size := by omega
        have l16_1 : w3.heap.size < w16.heap.size := by omega
        have l16_2 : w4.heap.size < w16.heap.size := by omega
        clear l15_0 l15_1 l15_2
        go_wp2
        go_ret
        exact ⟨rfl, hB16⟩

set_option maxRecDepth 100000 in
set_option maxHeartbeats 4000000 in
theorem tabs_xin_ahigh_bbad (A : Option Addr) (n c : Nat) (xs : List R) (x a0 a1 b0 b1 : Int) (w : World) (hl : PairList w A n c xs) (h : ¬ 80 < n) (ht : tableS xs = true) (hvx : valueIn xs x = true) (hoa : okR ⟨a0, a1⟩ = true) (hba : btw (firstX xs) (lastX xs) [a0, a1] = false) (hla : inS a0 (firstX xs) (lastX xs) = true) (hha : inS a1 (firstX xs) (lastX xs) = false) (hob : okR ⟨b0, b1⟩ = false) :
    Calls Try.prog 11 #[.slice A n c, .int .i64 x, .agg #[.int .i64 a0, .int .i64 a1, .int .i64 b0, .int .i64 b1]] w fun e w' => e = .returned (.bool true) ∧ Below w.heap.size w w' := by
  obtain ⟨hlen, hle, hmax, hnone, hx, -⟩ := hl
  have hk := fun W => known1_any W
  have hz : ¬ (80 : Int) < (n : Int) := by omega
  have h1 := fun W hx => copy_60 0 A n c xs W hx hlen hnone (by omega)
  have hn : Aside (xs.length = n) := hlen
  have hmn : n ≤ maxLen := by unfold maxLen; omega
  have h2 := fun lo A c W hx => CheckTable_any lo A n c xs W hx hn hmn
  have h3 := fun lo A c W hx => Value_any lo A n c xs x W hx hn hmn
  have h4 := fun lo A c W hx => Values_any lo A n c xs a0 a1 W hx hn hmn
  have h5 := fun lo A c W hx hnc hl => Where_any lo A n c xs b0 b1 W hx hn hnc hl
  have h6 := fun W hx => refTable_any 0 A n c xs W hx hn hmn
  obtain ⟨hr1, hr2, hr60⟩ := (tableS_iff xs).1 ht
  rw [ht] at h2 h6
  rw [if_pos rfl] at h2
  have hRa := fun W => refRange_any a0 a1 W
  have hRb := fun W => refRange_any b0 b1 W
  have hIx := fun W => (in_any x (firstX xs) (lastX xs) W).mono fun e w' h => (⟨h.1, h.2 ▸ Below.refl _ _⟩ : _ ∧ Below W.heap.size W w')
  rw [show valueS xs x = (valS xs x, 0) from (if_neg (by rw [ht]; decide)).trans (if_neg (by rw [hvx]; decide))] at h3
  have h8 := fun W hx => refValue_any 0 A n c xs x W hx hn ht hvx
  generalize valS xs x = v at h3 h8
  obtain ⟨v0, v1⟩ := v
  simp only at h8
  have hix : inS x (firstX xs) (lastX xs) = true := by rw [← hvx]; unfold inS valueIn btw; simp
  have hIl := fun W => (in_any a0 (firstX xs) (lastX xs) W).mono fun e w' h => (⟨h.1, h.2 ▸ Below.refl _ _⟩ : _ ∧ Below W.heap.size W w')
  have hIh := fun W => (in_any a1 (firstX xs) (lastX xs) W).mono fun e w' h => (⟨h.1, h.2 ▸ Below.refl _ _⟩ : _ ∧ Below W.heap.size W w')
  rw [show valuesS xs ⟨a0, a1⟩ = (⟨0, 0⟩, 3) from (if_neg (by rw [ht, hoa]; decide)).trans (if_pos hba)] at h4
  rw [hla] at hIl
  rw [hha] at hIh
  rw [show whereS xs ⟨b0, b1⟩ = ([], 2) from if_pos (.inr hob)] at h5
  rw [hix] at hIx
  rw [hoa] at hRa
  rw [hob] at hRb
  simp only [RE] at h3 h4
  obtain ⟨b, o, rfl, _, hlb, hc⟩ := hx (by omega)
  have g0 := hc 0 0 (by omega) (by omega)
  have g1 := hc (n - 1) 0 (by omega) (by omega)
  clear hc
  rw [show (xs[n - 1]?.getD R.d) = (xs[xs.length - 1]?.getD R.d) by rw [hlen]] at g1
  rw [show R.cell (xs[0]?.getD R.d) 0 = .int .i64 (firstX xs) from rfl] at g0
  rw [show R.cell (xs[xs.length - 1]?.getD R.d) 0 = .int .i64 (lastX xs) from rfl] at g1
  simp only [Nat.zero_mul, Nat.add_zero] at g0 g1
  clear hr1 ht hix hoa hob hvx hba hla hha
  generalize firstX xs = fx at *
  generalize lastX xs = lx at *
  have hwn : IntKind.i64.wrap ((n : Int) - 1) = ((n - 1 : Nat) : Int) := by rw [IntKind.wrap_i64]; omega
  have hwn0 : (0 : Int) ≤ ((n - 1 : Nat) : Int) := by omega
  have hwn1 : ((n - 1 : Nat) : Int) < (n : Int) := by omega
  have hnp : (0 : Int) < (n : Int) := by omega
  have hn1 : n - 1 < n := by omega
  have hn0 : 0 < n := by omega
  clear hlen hnone
  unfold maxLen at hmax
  go_enter Try.func11, Try.ntmps11
  go_wp2_with fail
  refine (h1 _ (hx.below (ua1 (Below.refl _ _)) (Nat.le_refl _))).mono ?_
  rintro e w1 ⟨A2, c2, rfl, hc2, hm2, hy, hb1⟩
  replace hy := hy.mono (Nat.zero_le _)
  have hz1 := hb1.size
  (try simp only [World.size_alloc, World.size_setCell, World.size_drew] at hz1)
  have f1_b0_0 : w1.cell? ⟨w.heap.size, 0, none⟩ = some (.int .i64 a0) := (hb1.cell (p := ⟨w.heap.size, 0, none⟩) (by show w.heap.size < _; first | omega | (simp only [World.size_alloc, World.size_setCell, World.size_drew]; omega))).trans (by simp [go_sem, cell_set])
  have f1_b0_1 : w1.cell? ⟨w.heap.size, 1, none⟩ = some (.int .i64 a1) := (hb1.cell (p := ⟨w.heap.size, 1, none⟩) (by show w.heap.size < _; first | omega | (simp only [World.size_alloc, World.size_setCell, World.size_drew]; omega))).trans (by simp [go_sem, cell_set])
  have f1_b0_2 : w1.cell? ⟨w.heap.size, 2, none⟩ = some (.int .i64 b0) := (hb1.cell (p := ⟨w.heap.size, 2, none⟩) (by show w.heap.size < _; first | omega | (simp only [World.size_alloc, World.size_setCell, World.size_drew]; omega))).trans (by simp [go_sem, cell_set])
  have f1_b0_3 : w1.cell? ⟨w.heap.size, 3, none⟩ = some (.int .i64 b1) := (hb1.cell (p := ⟨w.heap.size, 3, none⟩) (by show w.heap.size < _; first | omega | (simp only [World.size_alloc, World.size_setCell, World.size_drew]; omega))).trans (by simp [go_sem, cell_set])
  have hB1 : Below w.heap.size w w1 := ub1 (Below.refl _ _) hb1
  clear hb1 
  have l1_0 : w.heap.size < w1.heap.size := by omega
  go_wp2_with fail
  refine (h2 _ _ _ _ (hy.below (Below.refl _ _) (Nat.le_refl _))).mono ?_
  rintro e w2 ⟨rfl, hb2⟩
  have hz2 := hb2.size
  (try simp only [World.size_alloc, World.size_setCell, World.size_drew] at hz2)
  have hB1_2 : Below w1.heap.size w1 w2 := ub0 (Below.refl _ _) hb2
  have f2_b0_0 := up0 hb2 (by omega) f1_b0_0
  have f2_b0_1 := up0 hb2 (by omega) f1_b0_1
  have f2_b0_2 := up0 hb2 (by omega) f1_b0_2
  have f2_b0_3 := up0 hb2 (by omega) f1_b0_3
  have hB2 : Below w.heap.size w w2 := ub0 (hB1) hb2
  clear hb2 hB1 f1_b0_0 f1_b0_1 f1_b0_2 f1_b0_3
  have l2_0 : w.heap.size < w2.heap.size := by omega
  clear l1_0
  go_wp2_with fail
  refine (h3 _ _ _ _ (hy.below (hB1_2) (Nat.le_refl _))).mono ?_
  rintro e w3 ⟨rfl, hb3⟩
  have hz3 := hb3.size
  (try simp only [World.size_alloc, World.size_setCell, World.size_drew] at hz3)
  have hB1_3 : Below w1.heap.size w1 w3 := ub0 (hB1_2) hb3
  clear hB1_2
  have f3_b0_0 := up0 hb3 (by omega) f2_b0_0
  have f3_b0_1 := up0 hb3 (by omega) f2_b0_1
  have f3_b0_2 := up0 hb3 (by omega) f2_b0_2
  have f3_b0_3 := up0 hb3 (by omega) f2_b0_3
  have hB3 : Below w.heap.size w w3 := ub0 (hB2) hb3
  clear hb3 hB2 f2_b0_0 f2_b0_1 f2_b0_2 f2_b0_3
  have l3_0 : w.heap.size < w3.heap.size := by omega
  clear l2_0
  go_wp2_with fail
  refine (h4 _ _ _ _ (hy.below (ua1 (hB1_3)) (Nat.le_refl _))).mono ?_
  rintro e w4 ⟨rfl, hb4⟩
  have hz4 := hb4.size
  (try simp only [World.size_alloc, World.size_setCell, World.size_drew] at hz4)
  have hB1_4 : Below w1.heap.size w1 w4 := ub1 (hB1_3) hb4
  clear hB1_3
  have f4_b0_0 := up1 hb4 (by omega) f3_b0_0
  have f4_b0_1 := up1 hb4 (by omega) f3_b0_1
  have f4_b0_2 := up1 hb4 (by omega) f3_b0_2
  have f4_b0_3 := up1 hb4 (by omega) f3_b0_3
  have f4_b1_0 : w4.cell? ⟨w3.heap.size, 0, none⟩ = some (.int .i64 v0) := (hb4.cell (p := ⟨w3.heap.size, 0, none⟩) (by show w3.heap.size < _; first | omega | (simp only [World.size_alloc, World.size_setCell, World.size_drew]; omega))).trans (by simp [go_sem, cell_set])
  have f4_b1_1 : w4.cell? ⟨w3.heap.size, 1, none⟩ = some (.int .i64 v1) := (hb4.cell (p := ⟨w3.heap.size, 1, none⟩) (by show w3.heap.size < _; first | omega | (simp only [World.size_alloc, World.size_setCell, World.size_drew]; omega))).trans (by simp [go_sem, cell_set])
  have hB4 : Below w.heap.size w w4 := ub1 (hB3) hb4
  clear hb4 hB3 f3_b0_0 f3_b0_1 f3_b0_2 f3_b0_3
  have l4_0 : w.heap.size < w4.heap.size := by omega
  have l4_1 : w3.heap.size < w4.heap.size := by omega
  clear l3_0
  go_wp2_with fail
  refine (h5 _ _ _ _ (hy.below (ua1 (hB1_4)) (Nat.le_refl _)) hc2 hm2).mono ?_
  rintro e w5 ⟨v2, rfl, -, hv2, hb5⟩
  obtain rfl := hv2 rfl
  clear hv2
  have hz5 := hb5.size
  (try simp only [World.size_alloc, World.size_setCell, World.size_drew] at hz5)
  have hB1_5 : Below w1.heap.size w1 w5 := ub1 (hB1_4) hb5
  clear hB1_4
  have f5_b0_0 := up1 hb5 (by omega) f4_b0_0
  have f5_b0_1 := up1 hb5 (by omega) f4_b0_1
  have f5_b0_2 := up1 hb5 (by omega) f4_b0_2
  have f5_b0_3 := up1 hb5 (by omega) f4_b0_3
  have f5_b1_0 := up1 hb5 (by omega) f4_b1_0
  have f5_b1_1 := up1 hb5 (by omega) f4_b1_1
  have f5_b2_0 : w5.cell? ⟨w4.heap.size, 0, none⟩ = some (.int .i64 0) := (hb5.cell (p := ⟨w4.heap.size, 0, none⟩) (by show w4.heap.size < _; first | omega | (simp only [World.size_alloc, World.size_setCell, World.size_drew]; omega))).trans (by simp [go_sem, cell_set])
  have f5_b2_1 : w5.cell? ⟨w4.heap.size, 1, none⟩ = some (.int .i64 0) := (hb5.cell (p := ⟨w4.heap.size, 1, none⟩) (by show w4.heap.size < _; first | omega | (simp only [World.size_alloc, World.size_setCell, World.size_drew]; omega))).trans (by simp [go_sem, cell_set])
  have hB5 : Below w.heap.size w w5 := ub1 (hB4) hb5
  clear hb5 hB4 f4_b0_0 f4_b0_1 f4_b0_2 f4_b0_3 f4_b1_0 f4_b1_1
  have l5_0 : w.heap.size < w5.heap.size := by omega
  have l5_1 : w3.heap.size < w5.heap.size := by omega
  have l5_2 : w4.heap.size < w5.heap.size := by omega
  clear l4_0 l4_1
  go_wp2_with fail
  have hxl : Ranges w5 0 _ xs := (hx.below (hB5) (Nat.le_refl _))
  have hyl : Ranges w5 0 A2 xs := (hy.below (hB1_5) (Nat.le_refl _))
  go_loopg [15] (n) (fun gg i wr => ∃ k : Nat, k ≤ n ∧ n - k ≤ gg ∧ i = .int .i64 k ∧ Aside (Below w5.heap.size w5 wr))
  case atStart => exact ⟨0, Nat.zero_le _, Nat.le_refl _, rfl, Below.refl _ _⟩
  case round =>
    obtain ⟨k, hk', hg, rfl, I⟩ := hrel
    by_cases hlt : k < n
    · obtain ⟨bb1, o1, hA1, _, hlb1, hc1⟩ := hxl (by have := hn.out; omega)
      injection hA1 with hA1
      injection hA1 with hA2 hA3
      subst hA2
      subst hA3
      obtain ⟨b2, o2, rfl, _, hlb2, hc2'⟩ := hyl (by have := hn.out; omega)
      have x0 := (I.out.cell (p := ⟨b, o + k * 2 + 0, none⟩) hlb1).trans (hc1 k 0 (by have := hn.out; omega) (by omega))
      have x1 := (I.out.cell (p := ⟨b, o + k * 2 + 1, none⟩) hlb1).trans (hc1 k 1 (by have := hn.out; omega) (by omega))
      have y0 := (I.out.cell (p := ⟨b2, o2 + k * 2 + 0, none⟩) hlb2).trans (hc2' k 0 (by have := hn.out; omega) (by omega))
      have y1 := (I.out.cell (p := ⟨b2, o2 + k * 2 + 1, none⟩) hlb2).trans (hc2' k 1 (by have := hn.out; omega) (by omega))
      clear hc1 hc2' hx hy hxl hyl
      generalize xs[k]?.getD R.d = r at x0 x1 y0 y1
      obtain ⟨r0, r1⟩ := r
      simp only [R.cell, Nat.add_zero, if_true, Nat.one_ne_zero, if_false] at x0 x1 y0 y1
      have hltz : (k : Int) < (n : Int) := by omega
      have hk0 : (0 : Int) ≤ (k : Int) := by omega
      go_wp2_with fail
      go_quiet (fail)
      generalize hq : World.drewN wr _ = wd
      have hD := drawnB hq
      have J := Lib.hid (I.out.trans (hD.mono (by have := I.out.size; omega)))
      clear hq hD I
      go_wp2
      go_roundg (n - (k + 1))
      case measure => omega
      case rel => exact ⟨k + 1, by omega, by omega, by go_num, J.out⟩
    · have hltz : ¬ (k : Int) < (n : Int) := by omega
      obtain ⟨w6, hww6⟩ : ∃ x, x = wr := ⟨_, rfl⟩
      subst hww6
      have hb6 : Below w5.heap.size w5 w6 := I.out
      clear I hxl hyl
      have hz6 := hb6.size
      (try simp only [World.size_alloc, World.size_setCell, World.size_drew] at hz6)
      have hB1_6 : Below w1.heap.size w1 w6 := ub0 (hB1_5) hb6
      clear hB1_5
      have f6_b0_0 := up0 hb6 (by omega) f5_b0_0
      have f6_b0_1 := up0 hb6 (by omega) f5_b0_1
      have f6_b0_2 := up0 hb6 (by omega) f5_b0_2
      have f6_b0_3 := up0 hb6 (by omega) f5_b0_3
      have f6_b1_0 := up0 hb6 (by omega) f5_b1_0
      have f6_b1_1 := up0 hb6 (by omega) f5_b1_1
      have f6_b2_0 := up0 hb6 (by omega) f5_b2_0
      have f6_b2_1 := up0 hb6 (by omega) f5_b2_1
      have hB6 : Below w.heap.size w w6 := ub0 (hB5) hb6
      clear hb6 hB5 f5_b0_0 f5_b0_1 f5_b0_2 f5_b0_3 f5_b1_0 f5_b1_1 f5_b2_0 f5_b2_1
      have l6_0 : w.heap.size < w6.heap.size := by omega
      have l6_1 : w3.heap.size < w6.heap.size := by omega
      have l6_2 : w4.heap.size < w6.heap.size := by omega
      clear l5_0 l5_1 l5_2
      go_wp2_with fail
      refine (h6 _ (hx.below (hB6) (Nat.le_refl _))).mono ?_
      rintro e w7 ⟨rfl, hb7⟩
      have hz7 := hb7.size
      (try simp only [World.size_alloc, World.size_setCell, World.size_drew] at hz7)
      have hB1_7 : Below w1.heap.size w1 w7 := ub0 (hB1_6) hb7
      clear hB1_6
      have f7_b0_0 := up0 hb7 (by omega) f6_b0_0
      have f7_b0_1 := up0 hb7 (by omega) f6_b0_1
      have f7_b0_2 := up0 hb7 (by omega) f6_b0_2
      have f7_b0_3 := up0 hb7 (by omega) f6_b0_3
      have f7_b1_0 := up0 hb7 (by omega) f6_b1_0
      have f7_b1_1 := up0 hb7 (by omega) f6_b1_1
      have f7_b2_0 := up0 hb7 (by omega) f6_b2_0
      have f7_b2_1 := up0 hb7 (by omega) f6_b2_1
      have hB7 : Below w.heap.size w w7 := ub0 (hB6) hb7
      clear hb7 hB6 f6_b0_0 f6_b0_1 f6_b0_2 f6_b0_3 f6_b1_0 f6_b1_1 f6_b2_0 f6_b2_1
      have l7_0 : w.heap.size < w7.heap.size := by omega
      have l7_1 : w3.heap.size < w7.heap.size := by omega
      have l7_2 : w4.heap.size < w7.heap.size := by omega
      clear l6_0 l6_1 l6_2
      have G0 := (hB7.cell (p := ⟨b, o, none⟩) hlb).trans g0
      have G1 := (hB7.cell (p := ⟨b, o + (n - 1) * 2, none⟩) hlb).trans g1
      go_wp2_with fail
      go_quiet (fail)
      generalize hq8 : World.drewN w7 _ = w8
      have hb8 := drawnB hq8
      clear hq8
      have hz8 := hb8.size
      (try simp only [World.size_alloc, World.size_setCell, World.size_drew] at hz8)
      have hB1_8 : Below w1.heap.size w1 w8 := ub0 (hB1_7) hb8
      clear hB1_7
      have f8_b0_0 := up0 hb8 (by omega) f7_b0_0
      have f8_b0_1 := up0 hb8 (by omega) f7_b0_1
      have f8_b0_2 := up0 hb8 (by omega) f7_b0_2
      have f8_b0_3 := up0 hb8 (by omega) f7_b0_3
      have f8_b1_0 := up0 hb8 (by omega) f7_b1_0
      have f8_b1_1 := up0 hb8 (by omega) f7_b1_1
      have f8_b2_0 := up0 hb8 (by omega) f7_b2_0
      have f8_b2_1 := up0 hb8 (by omega) f7_b2_1
      have hB8 : Below w.heap.size w w8 := ub0 (hB7) hb8
      clear hb8 hB7 f7_b0_0 f7_b0_1 f7_b0_2 f7_b0_3 f7_b1_0 f7_b1_1 f7_b2_0 f7_b2_1
      have l8_0 : w.heap.size < w8.heap.size := by omega
      have l8_1 : w3.heap.size < w8.heap.size := by omega
      have l8_2 : w4.heap.size < w8.heap.size := by omega
      clear l7_0 l7_1 l7_2
      go_wp2_with fail
      refine (hIx _).mono ?_
      rintro e w9 ⟨rfl, hb9⟩
      have hz9 := hb9.size
      (try simp only [World.size_alloc, World.size_setCell, World.size_drew] at hz9)
      have hB1_9 : Below w1.heap.size w1 w9 := ub0 (hB1_8) hb9
      clear hB1_8
      have f9_b0_0 := up0 hb9 (by omega) f8_b0_0
      have f9_b0_1 := up0 hb9 (by omega) f8_b0_1
      have f9_b0_2 := up0 hb9 (by omega) f8_b0_2
      have f9_b0_3 := up0 hb9 (by omega) f8_b0_3
      have f9_b1_0 := up0 hb9 (by omega) f8_b1_0
      have f9_b1_1 := up0 hb9 (by omega) f8_b1_1
      have f9_b2_0 := up0 hb9 (by omega) f8_b2_0
      have f9_b2_1 := up0 hb9 (by omega) f8_b2_1
      have hB9 : Below w.heap.size w w9 := ub0 (hB8) hb9
      clear hb9 hB8 f8_b0_0 f8_b0_1 f8_b0_2 f8_b0_3 f8_b1_0 f8_b1_1 f8_b2_0 f8_b2_1
      have l9_0 : w.heap.size < w9.heap.size := by omega
      have l9_1 : w3.heap.size < w9.heap.size := by omega
      have l9_2 : w4.heap.size < w9.heap.size := by omega
      clear l8_0 l8_1 l8_2
      go_upto_region 21 with (fail)
      go_cut [132] (fun sx wx => sx = .bool false ∧ Aside (Below w9.heap.size w9 wx))
      case first =>
        first
        | go_region_with (first | (go_at_call 68; refine (h8 _ (hx.below ((by repeat (first | exact hB9 | exact Below.drew hB9 | exact Below.refl _ _ | (refine Below.alloc ?_ (by first | omega | (simp <;> omega)) _) | (refine Below.drew ?_)))) (Nat.le_refl _))).mono ?_; rintro e wc ⟨rfl, hbc⟩; have hTc : Below w9.heap.size w9 wc := below_call (by repeat (first | exact (Below.refl _ _) | exact Below.drew (Below.refl _ _) | exact Below.refl _ _ | (refine Below.alloc ?_ (by first | omega | (simp <;> omega)) _) | (refine Below.drew ?_))) hbc (by first | omega | (simp <;> omega)); have c_b0_0 : wc.cell? ⟨w.heap.size, 0, none⟩ = some (.int .i64 a0) := (hTc.cell (p := ⟨w.heap.size, 0, none⟩) (by show w.heap.size < _; omega)).trans f9_b0_0; have c_b0_1 : wc.cell? ⟨w.heap.size, 1, none⟩ = some (.int .i64 a1) := (hTc.cell (p := ⟨w.heap.size, 1, none⟩) (by show w.heap.size < _; omega)).trans f9_b0_1; have c_b0_2 : wc.cell? ⟨w.heap.size, 2, none⟩ = some (.int .i64 b0) := (hTc.cell (p := ⟨w.heap.size, 2, none⟩) (by show w.heap.size < _; omega)).trans f9_b0_2; have c_b0_3 : wc.cell? ⟨w.heap.size, 3, none⟩ = some (.int .i64 b1) := (hTc.cell (p := ⟨w.heap.size, 3, none⟩) (by show w.heap.size < _; omega)).trans f9_b0_3; have c_b1_0 : wc.cell? ⟨w3.heap.size, 0, none⟩ = some (.int .i64 v0) := (hTc.cell (p := ⟨w3.heap.size, 0, none⟩) (by show w3.heap.size < _; omega)).trans f9_b1_0; have c_b1_1 : wc.cell? ⟨w3.heap.size, 1, none⟩ = some (.int .i64 v1) := (hTc.cell (p := ⟨w3.heap.size, 1, none⟩) (by show w3.heap.size < _; omega)).trans f9_b1_1; have c_b2_0 : wc.cell? ⟨w4.heap.size, 0, none⟩ = some (.int .i64 0) := (hTc.cell (p := ⟨w4.heap.size, 0, none⟩) (by show w4.heap.size < _; omega)).trans f9_b2_0; have c_b2_1 : wc.cell? ⟨w4.heap.size, 1, none⟩ = some (.int .i64 0) := (hTc.cell (p := ⟨w4.heap.size, 1, none⟩) (by show w4.heap.size < _; omega)).trans f9_b2_1; clear hbc))
        | fail
        all_goals
          go_wp2_with fail
          go_meet
          exact ⟨rfl, (by (try show Below _ _ _); repeat (first | (with_reducible refine Below.setCell ?_ (by first | omega | (simp <;> omega)) _) | (with_reducible refine Below.alloc ?_ (by first | omega | (simp <;> omega)) _) | (with_reducible refine Below.drew ?_) | (with_reducible exact Below.refl _ _) | (with_reducible exact hTc) | (with_reducible refine below_call ?_ hTc (by first | omega | (simp <;> omega))) | (with_reducible refine below_call ?_ (Drew.below hTc _) (by first | omega | (simp <;> omega)))))⟩
      case rest =>
        obtain ⟨rfl, I⟩ := hcut
        obtain ⟨w10, hww10, hb10⟩ : ∃ x, x = _ ∧ Below w9.heap.size w9 x := ⟨_, rfl, I.out⟩
        subst hww10
        clear I
        have hz10 := hb10.size
        (try simp only [World.size_alloc, World.size_setCell, World.size_drew] at hz10)
        have hB1_10 : Below w1.heap.size w1 w10 := ub0 (hB1_9) hb10
        clear hB1_9
        have f10_b0_0 := up0 hb10 (by omega) f9_b0_0
        have f10_b0_1 := up0 hb10 (by omega) f9_b0_1
        have f10_b0_2 := up0 hb10 (by omega) f9_b0_2
        have f10_b0_3 := up0 hb10 (by omega) f9_b0_3
        have f10_b1_0 := up0 hb10 (by omega) f9_b1_0
        have f10_b1_1 := up0 hb10 (by omega) f9_b1_1
        have f10_b2_0 := up0 hb10 (by omega) f9_b2_0
        have f10_b2_1 := up0 hb10 (by omega) f9_b2_1
        have hB10 : Below w.heap.size w w10 := ub0 (hB9) hb10
        clear hb10 hB9 f9_b0_0 f9_b0_1 f9_b0_2 f9_b0_3 f9_b1_0 f9_b1_1 f9_b2_0 f9_b2_1
        have l10_0 : w.heap.size < w10.heap.size := by omega
        have l10_1 : w3.heap.size < w10.heap.size := by omega
        have l10_2 : w4.heap.size < w10.heap.size := by omega
        clear l9_0 l9_1 l9_2
        go_wp2_with fail
        refine (hRa _).mono ?_
        rintro e w11 ⟨rfl, hb11⟩
        have hz11 := hb11.size
        (try simp only [World.size_alloc, World.size_setCell, World.size_drew] at hz11)
        have hB1_11 : Below w1.heap.size w1 w11 := ub0 (hB1_10) hb11
        clear hB1_10
        have f11_b0_0 := up0 hb11 (by omega) f10_b0_0
        have f11_b0_1 := up0 hb11 (by omega) f10_b0_1
        have f11_b0_2 := up0 hb11 (by omega) f10_b0_2
        have f11_b0_3 := up0 hb11 (by omega) f10_b0_3
        have f11_b1_0 := up0 hb11 (by omega) f10_b1_0
        have f11_b1_1 := up0 hb11 (by omega) f10_b1_1
        have f11_b2_0 := up0 hb11 (by omega) f10_b2_0
        have f11_b2_1 := up0 hb11 (by omega) f10_b2_1
        have hB11 : Below w.heap.size w w11 := ub0 (hB10) hb11
        clear hb11 hB10 f10_b0_0 f10_b0_1 f10_b0_2 f10_b0_3 f10_b1_0 f10_b1_1 f10_b2_0 f10_b2_1
        have l11_0 : w.heap.size < w11.heap.size := by omega
        have l11_1 : w3.heap.size < w11.heap.size := by omega
        have l11_2 : w4.heap.size < w11.heap.size := by omega
        clear l10_0 l10_1 l10_2
        go_wp2_with fail
        refine (hIl _).mono ?_
        rintro e w12 ⟨rfl, hb12⟩
        have hz12 := hb12.size
        (try simp only [World.size_alloc, World.size_setCell, World.size_drew] at hz12)
        have hB1_12 : Below w1.heap.size w1 w12 := ub0 (hB1_11) hb12
        clear hB1_11
        have f12_b0_0 := up0 hb12 (by omega) f11_b0_0
        have f12_b0_1 := up0 hb12 (by omega) f11_b0_1
        have f12_b0_2 := up0 hb12 (by omega) f11_b0_2
        have f12_b0_3 := up0 hb12 (by omega) f11_b0_3
        have f12_b1_0 := up0 hb12 (by omega) f11_b1_0
        have f12_b1_1 := up0 hb12 (by omega) f11_b1_1
        have f12_b2_0 := up0 hb12 (by omega) f11_b2_0
        have f12_b2_1 := up0 hb12 (by omega) f11_b2_1
        have hB12 : Below w.heap.size w w12 := ub0 (hB11) hb12
        clear hb12 hB11 f11_b0_0 f11_b0_1 f11_b0_2 f11_b0_3 f11_b1_0 f11_b1_1 f11_b2_0 f11_b2_1
        have l12_0 : w.heap.size < w12.heap.size := by omega
        have l12_1 : w3.heap.size < w12.heap.size := by omega
        have l12_2 : w4.heap.size < w12.heap.size := by omega
        clear l11_0 l11_1 l11_2
        go_wp2_with fail
        refine (hIh _).mono ?_
        rintro e w13 ⟨rfl, hb13⟩
        have hz13 := hb13.size
        (try simp only [World.size_alloc, World.size_setCell, World.size_drew] at hz13)
        have hB1_13 : Below w1.heap.size w1 w13 := ub0 (hB1_12) hb13
        clear hB1_12
        have f13_b0_0 := up0 hb13 (by omega) f12_b0_0
        have f13_b0_1 := up0 hb13 (by omega) f12_b0_1
        have f13_b0_2 := up0 hb13 (by omega) f12_b0_2
        have f13_b0_3 := up0 hb13 (by omega) f12_b0_3
        have f13_b1_0 := up0 hb13 (by omega) f12_b1_0
        have f13_b1_1 := up0 hb13 (by omega) f12_b1_1
        have f13_b2_0 := up0 hb13 (by omega) f12_b2_0
        have f13_b2_1 := up0 hb13 (by omega) f12_b2_1
        have hB13 : Below w.heap.size w w13 := ub0 (hB12) hb13
        clear hb13 hB12 f12_b0_0 f12_b0_1 f12_b0_2 f12_b0_3 f12_b1_0 f12_b1_1 f12_b2_0 f12_b2_1
        have l13_0 : w.heap.size < w13.heap.size := by omega
        have l13_1 : w3.heap.size < w13.heap.size := by omega
        have l13_2 : w4.heap.size < w13.heap.size := by omega
        clear l12_0 l12_1 l12_2
        go_wp2_with fail
        refine (hRb _).mono ?_
        rintro e w14 ⟨rfl, hb14⟩
        have hz14 := hb14.size
        (try simp only [World.size_alloc, World.size_setCell, World.size_drew] at hz14)
        have hB1_14 : Below w1.heap.size w1 w14 := ub0 (hB1_13) hb14
        clear hB1_13
        have f14_b0_0 := up0 hb14 (by omega) f13_b0_0
        have f14_b0_1 := up0 hb14 (by omega) f13_b0_1
        have f14_b0_2 := up0 hb14 (by omega) f13_b0_2
        have f14_b0_3 := up0 hb14 (by omega) f13_b0_3
        have f14_b1_0 := up0 hb14 (by omega) f13_b1_0
        have f14_b1_1 := up0 hb14 (by omega) f13_b1_1
        have f14_b2_0 := up0 hb14 (by omega) f13_b2_0
        have f14_b2_1 := up0 hb14 (by omega) f13_b2_1
        have hB14 : Below w.heap.size w w14 := ub0 (hB13) hb14
        clear hb14 hB13 f13_b0_0 f13_b0_1 f13_b0_2 f13_b0_3 f13_b1_0 f13_b1_1 f13_b2_0 f13_b2_1
        have l14_0 : w.heap.size < w14.heap.size := by omega
        have l14_1 : w3.heap.size < w14.heap.size := by omega
        have l14_2 : w4.heap.size < w14.heap.size := by omega
        clear l13_0 l13_1 l13_2
        go_wp2_with fail
        refine (hk _).mono ?_
        rintro e w15 ⟨rfl, hb15⟩
        have hz15 := hb15.size
        (try simp only [World.size_alloc, World.size_setCell, World.size_drew] at hz15)
        have hB1_15 : Below w1.heap.size w1 w15 := ub0 (hB1_14) hb15
        clear hB1_14
        have f15_b0_0 := up0 hb15 (by omega) f14_b0_0
        have f15_b0_1 := up0 hb15 (by omega) f14_b0_1
        have f15_b0_2 := up0 hb15 (by omega) f14_b0_2
        have f15_b0_3 := up0 hb15 (by omega) f14_b0_3
        have f15_b1_0 := up0 hb15 (by omega) f14_b1_0
        have f15_b1_1 := up0 hb15 (by omega) f14_b1_1
        have f15_b2_0 := up0 hb15 (by omega) f14_b2_0
        have f15_b2_1 := up0 hb15 (by omega) f14_b2_1
        have hB15 : Below w.heap.size w w15 := ub0 (hB14) hb15
        clear hb15 hB14 f14_b0_0 f14_b0_1 f14_b0_2 f14_b0_3 f14_b1_0 f14_b1_1 f14_b2_0 f14_b2_1
        have l15_0 : w.heap.size < w15.heap.size := by omega
        have l15_1 : w3.heap.size < w15.heap.size := by omega
        have l15_2 : w4.heap.size < w15.heap.size := by omega
        clear l14_0 l14_1 l14_2
        go_wp2
        go_ret
        exact ⟨rfl, hB15⟩

set_option maxRecDepth 100000 in
set_option maxHeartbeats 4000000 in
theorem tabs_xin_ahigh_bok (A : Option Addr) (n c : Nat) (xs : List R) (x a0 a1 b0 b1 : Int) (w : World) (hl : PairList w A n c xs) (h : ¬ 80 < n) (ht : tableS xs = true) (hvx : valueIn xs x = true) (hoa : okR ⟨a0, a1⟩ = true) (hba : btw (firstX xs) (lastX xs) [a0, a1] = false) (hla : inS a0 (firstX xs) (lastX xs) = true) (hha : inS a1 (firstX xs) (lastX xs) = false) (hob : okR ⟨b0, b1⟩ = true) :
    Calls Try.prog 11 #[.slice A n c, .int .i64 x, .agg #[.int .i64 a0, .int .i64 a1, .int .i64 b0, .int .i64 b1]] w fun e w' => e = .returned (.bool true) ∧ Below w.heap.size w w' := by
  obtain ⟨hlen, hle, hmax, hnone, hx, -⟩ := hl
  have hk := fun W => known1_any W
  have hz : ¬ (80 : Int) < (n : Int) := by omega
  have h1 := fun W hx => copy_60 0 A n c xs W hx hlen hnone (by omega)
  have hn : Aside (xs.length = n) := hlen
  have hmn : n ≤ maxLen := by unfold maxLen; omega
  have h2 := fun lo A c W hx => CheckTable_any lo A n c xs W hx hn hmn
  have h3 := fun lo A c W hx => Value_any lo A n c xs x W hx hn hmn
  have h4 := fun lo A c W hx => Values_any lo A n c xs a0 a1 W hx hn hmn
  have h5 := fun lo A c W hx hnc hl => Where_any lo A n c xs b0 b1 W hx hn hnc hl
  have h6 := fun W hx => refTable_any 0 A n c xs W hx hn hmn
  obtain ⟨hr1, hr2, hr60⟩ := (tableS_iff xs).1 ht
  rw [ht] at h2 h6
  rw [if_pos rfl] at h2
  have hRa := fun W => refRange_any a0 a1 W
  have hRb := fun W => refRange_any b0 b1 W
  have hIx := fun W => (in_any x (firstX xs) (lastX xs) W).mono fun e w' h => (⟨h.1, h.2 ▸ Below.refl _ _⟩ : _ ∧ Below W.heap.size W w')
  rw [show valueS xs x = (valS xs x, 0) from (if_neg (by rw [ht]; decide)).trans (if_neg (by rw [hvx]; decide))] at h3
  have h8 := fun W hx => refValue_any 0 A n c xs x W hx hn ht hvx
  generalize valS xs x = v at h3 h8
  obtain ⟨v0, v1⟩ := v
  simp only at h8
  have hix : inS x (firstX xs) (lastX xs) = true := by rw [← hvx]; unfold inS valueIn btw; simp
  have hIl := fun W => (in_any a0 (firstX xs) (lastX xs) W).mono fun e w' h => (⟨h.1, h.2 ▸ Below.refl _ _⟩ : _ ∧ Below W.heap.size W w')
  have hIh := fun W => (in_any a1 (firstX xs) (lastX xs) W).mono fun e w' h => (⟨h.1, h.2 ▸ Below.refl _ _⟩ : _ ∧ Below W.heap.size W w')
  rw [show valuesS xs ⟨a0, a1⟩ = (⟨0, 0⟩, 3) from (if_neg (by rw [ht, hoa]; decide)).trans (if_pos hba)] at h4
  rw [hla] at hIl
  rw [hha] at hIh
  rw [show whereS xs ⟨b0, b1⟩ = (whF xs (clampY ⟨b0, b1⟩) (xs.length - 1), 0) from if_neg (by rw [ht, hob]; decide)] at h5
  have h7 := fun W hx => refWhere_any 0 A n c xs b0 b1 W hx hn ht hob
  have hl1 := wh_len xs (clampY ⟨b0, b1⟩) (xs.length - 1)
  generalize whF xs (clampY ⟨b0, b1⟩) (xs.length - 1) = W1 at h5 h7 hl1
  have hm1 : W1.length ≤ maxLen := by unfold maxLen; omega
  have h10 := fun lo1 lo2 A1 c1 A2 c2 W hx hy => (same_self lo1 lo2 A1 c1 A2 W1.length c2 W1 W hx hy rfl hm1).mono fun e w' h => (⟨h.1, drew_all h.2⟩ : _ ∧ Below W.heap.size W w')
  clear hl1
  rw [hix] at hIx
  rw [hoa] at hRa
  rw [hob] at hRb
  simp only [RE] at h3 h4
  obtain ⟨b, o, rfl, _, hlb, hc⟩ := hx (by omega)
  have g0 := hc 0 0 (by omega) (by omega)
  have g1 := hc (n - 1) 0 (by omega) (by omega)
  clear hc
  rw [show (xs[n - 1]?.getD R.d) = (xs[xs.length - 1]?.getD R.d) by rw [hlen]] at g1
  rw [show R.cell (xs[0]?.getD R.d) 0 = .int .i64 (firstX xs) from rfl] at g0
  rw [show R.cell (xs[xs.length - 1]?.getD R.d) 0 = .int .i64 (lastX xs) from rfl] at g1
  simp only [Nat.zero_mul, Nat.add_zero] at g0 g1
  clear hr1 ht hix hoa hob hvx hba hla hha
  generalize firstX xs = fx at *
  generalize lastX xs = lx at *
  have hwn : IntKind.i64.wrap ((n : Int) - 1) = ((n - 1 : Nat) : Int) := by rw [IntKind.wrap_i64]; omega
  have hwn0 : (0 : Int) ≤ ((n - 1 : Nat) : Int) := by omega
  have hwn1 : ((n - 1 : Nat) : Int) < (n : Int) := by omega
  have hnp : (0 : Int) < (n : Int) := by omega
  have hn1 : n - 1 < n := by omega
  have hn0 : 0 < n := by omega
  clear hlen hnone
  unfold maxLen at hmax
  go_enter Try.func11, Try.ntmps11
  go_wp2_with fail
  refine (h1 _ (hx.below (ua1 (Below.refl _ _)) (Nat.le_refl _))).mono ?_
  rintro e w1 ⟨A2, c2, rfl, hc2, hm2, hy, hb1⟩
  replace hy := hy.mono (Nat.zero_le _)
  have hz1 := hb1.size
  (try simp only [World.size_alloc, World.size_setCell, World.size_drew] at hz1)
  have f1_b0_0 : w1.cell? ⟨w.heap.size, 0, none⟩ = some (.int .i64 a0) := (hb1.cell (p := ⟨w.heap.size, 0, none⟩) (by show w.heap.size < _; first | omega | (simp only [World.size_alloc, World.size_setCell, World.size_drew]; omega))).trans (by simp [go_sem, cell_set])
  have f1_b0_1 : w1.cell? ⟨w.heap.size, 1, none⟩ = some (.int .i64 a1) := (hb1.cell (p := ⟨w.heap.size, 1, none⟩) (by show w.heap.size < _; first | omega | (simp only [World.size_alloc, World.size_setCell, World.size_drew]; omega))).trans (by simp [go_sem, cell_set])
  have f1_b0_2 : w1.cell? ⟨w.heap.size, 2, none⟩ = some (.int .i64 b0) := (hb1.cell (p := ⟨w.heap.size, 2, none⟩) (by show w.heap.size < _; first | omega | (simp only [World.size_alloc, World.size_setCell, World.size_drew]; omega))).trans (by simp [go_sem, cell_set])
  have f1_b0_3 : w1.cell? ⟨w.heap.size, 3, none⟩ = some (.int .i64 b1) := (hb1.cell (p := ⟨w.heap.size, 3, none⟩) (by show w.heap.size < _; first | omega | (simp only [World.size_alloc, World.size_setCell, World.size_drew]; omega))).trans (by simp [go_sem, cell_set])
  have hB1 : Below w.heap.size w w1 := ub1 (Below.refl _ _) hb1
  clear hb1 
  have l1_0 : w.heap.size < w1.heap.size := by omega
  go_wp2_with fail
  refine (h2 _ _ _ _ (hy.below (Below.refl _ _) (Nat.le_refl _))).mono ?_
  rintro e w2 ⟨rfl, hb2⟩
  have hz2 := hb2.size
  (try simp only [World.size_alloc, World.size_setCell, World.size_drew] at hz2)
  have hB1_2 : Below w1.heap.size w1 w2 := ub0 (Below.refl _ _) hb2
  have f2_b0_0 := up0 hb2 (by omega) f1_b0_0
  have f2_b0_1 := up0 hb2 (by omega) f1_b0_1
  have f2_b0_2 := up0 hb2 (by omega) f1_b0_2
  have f2_b0_3 := up0 hb2 (by omega) f1_b0_3
  have hB2 : Below w.heap.size w w2 := ub0 (hB1) hb2
  clear hb2 hB1 f1_b0_0 f1_b0_1 f1_b0_2 f1_b0_3
  have l2_0 : w.heap.size < w2.heap.size := by omega
  clear l1_0
  go_wp2_with fail
  refine (h3 _ _ _ _ (hy.below (hB1_2) (Nat.le_refl _))).mono ?_
  rintro e w3 ⟨rfl, hb3⟩
  have hz3 := hb3.size
  (try simp only [World.size_alloc, World.size_setCell, World.size_drew] at hz3)
  have hB1_3 : Below w1.heap.size w1 w3 := ub0 (hB1_2) hb3
  clear hB1_2
  have f3_b0_0 := up0 hb3 (by omega) f2_b0_0
  have f3_b0_1 := up0 hb3 (by omega) f2_b0_1
  have f3_b0_2 := up0 hb3 (by omega) f2_b0_2
  have f3_b0_3 := up0 hb3 (by omega) f2_b0_3
  have hB3 : Below w.heap.size w w3 := ub0 (hB2) hb3
  clear hb3 hB2 f2_b0_0 f2_b0_1 f2_b0_2 f2_b0_3
  have l3_0 : w.heap.size < w3.heap.size := by omega
  clear l2_0
  go_wp2_with fail
  refine (h4 _ _ _ _ (hy.below (ua1 (hB1_3)) (Nat.le_refl _))).mono ?_
  rintro e w4 ⟨rfl, hb4⟩
  have hz4 := hb4.size
  (try simp only [World.size_alloc, World.size_setCell, World.size_drew] at hz4)
  have hB1_4 : Below w1.heap.size w1 w4 := ub1 (hB1_3) hb4
  clear hB1_3
  have f4_b0_0 := up1 hb4 (by omega) f3_b0_0
  have f4_b0_1 := up1 hb4 (by omega) f3_b0_1
  have f4_b0_2 := up1 hb4 (by omega) f3_b0_2
  have f4_b0_3 := up1 hb4 (by omega) f3_b0_3
  have f4_b1_0 : w4.cell? ⟨w3.heap.size, 0, none⟩ = some (.int .i64 v0) := (hb4.cell (p := ⟨w3.heap.size, 0, none⟩) (by show w3.heap.size < _; first | omega | (simp only [World.size_alloc, World.size_setCell, World.size_drew]; omega))).trans (by simp [go_sem, cell_set])
  have f4_b1_1 : w4.cell? ⟨w3.heap.size, 1, none⟩ = some (.int .i64 v1) := (hb4.cell (p := ⟨w3.heap.size, 1, none⟩) (by show w3.heap.size < _; first | omega | (simp only [World.size_alloc, World.size_setCell, World.size_drew]; omega))).trans (by simp [go_sem, cell_set])
  have hB4 : Below w.heap.size w w4 := ub1 (hB3) hb4
  clear hb4 hB3 f3_b0_0 f3_b0_1 f3_b0_2 f3_b0_3
  have l4_0 : w.heap.size < w4.heap.size := by omega
  have l4_1 : w3.heap.size < w4.heap.size := by omega
  clear l3_0
  go_wp2_with fail
  refine (h5 _ _ _ _ (hy.below (ua1 (hB1_4)) (Nat.le_refl _)) hc2 hm2).mono ?_
  rintro e w5 ⟨v2, rfl, ho2, -, hb5⟩
  obtain ⟨Ahw, chw, hvw, -, -, hw⟩ := ho2.reads
  subst hvw
  clear ho2
  have hz5 := hb5.size
  (try simp only [World.size_alloc, World.size_setCell, World.size_drew] at hz5)
  have hB1_5 : Below w1.heap.size w1 w5 := ub1 (hB1_4) hb5
  clear hB1_4
  have f5_b0_0 := up1 hb5 (by omega) f4_b0_0
  have f5_b0_1 := up1 hb5 (by omega) f4_b0_1
  have f5_b0_2 := up1 hb5 (by omega) f4_b0_2
  have f5_b0_3 := up1 hb5 (by omega) f4_b0_3
  have f5_b1_0 := up1 hb5 (by omega) f4_b1_0
  have f5_b1_1 := up1 hb5 (by omega) f4_b1_1
  have f5_b2_0 : w5.cell? ⟨w4.heap.size, 0, none⟩ = some (.int .i64 0) := (hb5.cell (p := ⟨w4.heap.size, 0, none⟩) (by show w4.heap.size < _; first | omega | (simp only [World.size_alloc, World.size_setCell, World.size_drew]; omega))).trans (by simp [go_sem, cell_set])
  have f5_b2_1 : w5.cell? ⟨w4.heap.size, 1, none⟩ = some (.int .i64 0) := (hb5.cell (p := ⟨w4.heap.size, 1, none⟩) (by show w4.heap.size < _; first | omega | (simp only [World.size_alloc, World.size_setCell, World.size_drew]; omega))).trans (by simp [go_sem, cell_set])
  have hB5 : Below w.heap.size w w5 := ub1 (hB4) hb5
  clear hb5 hB4 f4_b0_0 f4_b0_1 f4_b0_2 f4_b0_3 f4_b1_0 f4_b1_1
  have l5_0 : w.heap.size < w5.heap.size := by omega
  have l5_1 : w3.heap.size < w5.heap.size := by omega
  have l5_2 : w4.heap.size < w5.heap.size := by omega
  clear l4_0 l4_1
  go_wp2_with fail
  have hxl : Ranges w5 0 _ xs := (hx.below (hB5) (Nat.le_refl _))
  have hyl : Ranges w5 0 A2 xs := (hy.below (hB1_5) (Nat.le_refl _))
  go_loopg [15] (n) (fun gg i wr => ∃ k : Nat, k ≤ n ∧ n - k ≤ gg ∧ i = .int .i64 k ∧ Aside (Below w5.heap.size w5 wr))
  case atStart => exact ⟨0, Nat.zero_le _, Nat.le_refl _, rfl, Below.refl _ _⟩
  case round =>
    obtain ⟨k, hk', hg, rfl, I⟩ := hrel
    by_cases hlt : k < n
    · obtain ⟨bb1, o1, hA1, _, hlb1, hc1⟩ := hxl (by have := hn.out; omega)
      injection hA1 with hA1
      injection hA1 with hA2 hA3
      subst hA2
      subst hA3
      obtain ⟨b2, o2, rfl, _, hlb2, hc2'⟩ := hyl (by have := hn.out; omega)
      have x0 := (I.out.cell (p := ⟨b, o + k * 2 + 0, none⟩) hlb1).trans (hc1 k 0 (by have := hn.out; omega) (by omega))
      have x1 := (I.out.cell (p := ⟨b, o + k * 2 + 1, none⟩) hlb1).trans (hc1 k 1 (by have := hn.out; omega) (by omega))
      have y0 := (I.out.cell (p := ⟨b2, o2 + k * 2 + 0, none⟩) hlb2).trans (hc2' k 0 (by have := hn.out; omega) (by omega))
      have y1 := (I.out.cell (p := ⟨b2, o2 + k * 2 + 1, none⟩) hlb2).trans (hc2' k 1 (by have := hn.out; omega) (by omega))
      clear hc1 hc2' hx hy hxl hyl
      generalize xs[k]?.getD R.d = r at x0 x1 y0 y1
      obtain ⟨r0, r1⟩ := r
      simp only [R.cell, Nat.add_zero, if_true, Nat.one_ne_zero, if_false] at x0 x1 y0 y1
      have hltz : (k : Int) < (n : Int) := by omega
      have hk0 : (0 : Int) ≤ (k : Int) := by omega
      go_wp2_with fail
      go_quiet (fail)
      generalize hq : World.drewN wr _ = wd
      have hD := drawnB hq
      have J := Lib.hid (I.out.trans (hD.mono (by have := I.out.size; omega)))
      clear hq hD I
      go_wp2
      go_roundg (n - (k + 1))
      case measure => omega
      case rel => exact ⟨k + 1, by omega, by omega, by go_num, J.out⟩
    · have hltz : ¬ (k : Int) < (n : Int) := by omega
      obtain ⟨w6, hww6⟩ : ∃ x, x = wr := ⟨_, rfl⟩
      subst hww6
      have hb6 : Below w5.heap.size w5 w6 := I.out
      clear I hxl hyl
      have hz6 := hb6.size
      (try simp only [World.size_alloc, World.size_setCell, World.size_drew] at hz6)
      have hB1_6 : Below w1.heap.size w1 w6 := ub0 (hB1_5) hb6
      clear hB1_5
      have hB5_6 : Below w5.heap.size w5 w6 := ub0 (Below.refl _ _) hb6
      have f6_b0_0 := up0 hb6 (by omega) f5_b0_0
      have f6_b0_1 := up0 hb6 (by omega) f5_b0_1
      have f6_b0_2 := up0 hb6 (by omega) f5_b0_2
      have f6_b0_3 := up0 hb6 (by omega) f5_b0_3
      have f6_b1_0 := up0 hb6 (by omega) f5_b1_0
      have f6_b1_1 := up0 hb6 (by omega) f5_b1_1
      have f6_b2_0 := up0 hb6 (by omega) f5_b2_0
      have f6_b2_1 := up0 hb6 (by omega) f5_b2_1
      have hB6 : Below w.heap.size w w6 := ub0 (hB5) hb6
      clear hb6 hB5 f5_b0_0 f5_b0_1 f5_b0_2 f5_b0_3 f5_b1_0 f5_b1_1 f5_b2_0 f5_b2_1
      have l6_0 : w.heap.size < w6.heap.size := by omega
      have l6_1 : w3.heap.size < w6.heap.size := by omega
      have l6_2 : w4.heap.size < w6.heap.size := by omega
      clear l5_0 l5_1 l5_2
      go_wp2_with fail
      refine (h6 _ (hx.below (hB6) (Nat.le_refl _))).mono ?_
      rintro e w7 ⟨rfl, hb7⟩
      have hz7 := hb7.size
      (try simp only [World.size_alloc, World.size_setCell, World.size_drew] at hz7)
      have hB1_7 : Below w1.heap.size w1 w7 := ub0 (hB1_6) hb7
      clear hB1_6
      have hB5_7 : Below w5.heap.size w5 w7 := ub0 (hB5_6) hb7
      clear hB5_6
      have f7_b0_0 := up0 hb7 (by omega) f6_b0_0
      have f7_b0_1 := up0 hb7 (by omega) f6_b0_1
      have f7_b0_2 := up0 hb7 (by omega) f6_b0_2
      have f7_b0_3 := up0 hb7 (by omega) f6_b0_3
      have f7_b1_0 := up0 hb7 (by omega) f6_b1_0
      have f7_b1_1 := up0 hb7 (by omega) f6_b1_1
      have f7_b2_0 := up0 hb7 (by omega) f6_b2_0
      have f7_b2_1 := up0 hb7 (by omega) f6_b2_1
      have hB7 : Below w.heap.size w w7 := ub0 (hB6) hb7
      clear hb7 hB6 f6_b0_0 f6_b0_1 f6_b0_2 f6_b0_3 f6_b1_0 f6_b1_1 f6_b2_0 f6_b2_1
      have l7_0 : w.heap.size < w7.heap.size := by omega
      have l7_1 : w3.heap.size < w7.heap.size := by omega
      have l7_2 : w4.heap.size < w7.heap.size := by omega
      clear l6_0 l6_1 l6_2
      have G0 := (hB7.cell (p := ⟨b, o, none⟩) hlb).trans g0
      have G1 := (hB7.cell (p := ⟨b, o + (n - 1) * 2, none⟩) hlb).trans g1
      go_wp2_with fail
      go_quiet (fail)
      generalize hq8 : World.drewN w7 _ = w8
      have hb8 := drawnB hq8
      clear hq8
      have hz8 := hb8.size
      (try simp only [World.size_alloc, World.size_setCell, World.size_drew] at hz8)
      have hB1_8 : Below w1.heap.size w1 w8 := ub0 (hB1_7) hb8
      clear hB1_7
      have hB5_8 : Below w5.heap.size w5 w8 := ub0 (hB5_7) hb8
      clear hB5_7
      have f8_b0_0 := up0 hb8 (by omega) f7_b0_0
      have f8_b0_1 := up0 hb8 (by omega) f7_b0_1
      have f8_b0_2 := up0 hb8 (by omega) f7_b0_2
      have f8_b0_3 := up0 hb8 (by omega) f7_b0_3
      have f8_b1_0 := up0 hb8 (by omega) f7_b1_0
      have f8_b1_1 := up0 hb8 (by omega) f7_b1_1
      have f8_b2_0 := up0 hb8 (by omega) f7_b2_0
      have f8_b2_1 := up0 hb8 (by omega) f7_b2_1
      have hB8 : Below w.heap.size w w8 := ub0 (hB7) hb8
      clear hb8 hB7 f7_b0_0 f7_b0_1 f7_b0_2 f7_b0_3 f7_b1_0 f7_b1_1 f7_b2_0 f7_b2_1
      have l8_0 : w.heap.size < w8.heap.size := by omega
      have l8_1 : w3.heap.size < w8.heap.size := by omega
      have l8_2 : w4.heap.size < w8.heap.size := by omega
      clear l7_0 l7_1 l7_2
      go_wp2_with fail
      refine (hIx _).mono ?_
      rintro e w9 ⟨rfl, hb9⟩
      have hz9 := hb9.size
      (try simp only [World.size_alloc, World.size_setCell, World.size_drew] at hz9)
      have hB1_9 : Below w1.heap.size w1 w9 := ub0 (hB1_8) hb9
      clear hB1_8
      have hB5_9 : Below w5.heap.size w5 w9 := ub0 (hB5_8) hb9
      clear hB5_8
      have f9_b0_0 := up0 hb9 (by omega) f8_b0_0
      have f9_b0_1 := up0 hb9 (by omega) f8_b0_1
      have f9_b0_2 := up0 hb9 (by omega) f8_b0_2
      have f9_b0_3 := up0 hb9 (by omega) f8_b0_3
      have f9_b1_0 := up0 hb9 (by omega) f8_b1_0
      have f9_b1_1 := up0 hb9 (by omega) f8_b1_1
      have f9_b2_0 := up0 hb9 (by omega) f8_b2_0
      have f9_b2_1 := up0 hb9 (by omega) f8_b2_1
      have hB9 : Below w.heap.size w w9 := ub0 (hB8) hb9
      clear hb9 hB8 f8_b0_0 f8_b0_1 f8_b0_2 f8_b0_3 f8_b1_0 f8_b1_1 f8_b2_0 f8_b2_1
      have l9_0 : w.heap.size < w9.heap.size := by omega
      have l9_1 : w3.heap.size < w9.heap.size := by omega
      have l9_2 : w4.heap.size < w9.heap.size := by omega
      clear l8_0 l8_1 l8_2
      go_upto_region 21 with (fail)
      go_cut [132] (fun sx wx => sx = .bool false ∧ Aside (Below w9.heap.size w9 wx))
      case first =>
        first
        | go_region_with (first | (go_at_call 68; refine (h8 _ (hx.below ((by repeat (first | exact hB9 | exact Below.drew hB9 | exact Below.refl _ _ | (refine Below.alloc ?_ (by first | omega | (simp <;> omega)) _) | (refine Below.drew ?_)))) (Nat.le_refl _))).mono ?_; rintro e wc ⟨rfl, hbc⟩; have hTc : Below w9.heap.size w9 wc := below_call (by repeat (first | exact (Below.refl _ _) | exact Below.drew (Below.refl _ _) | exact Below.refl _ _ | (refine Below.alloc ?_ (by first | omega | (simp <;> omega)) _) | (refine Below.drew ?_))) hbc (by first | omega | (simp <;> omega)); have c_b0_0 : wc.cell? ⟨w.heap.size, 0, none⟩ = some (.int .i64 a0) := (hTc.cell (p := ⟨w.heap.size, 0, none⟩) (by show w.heap.size < _; omega)).trans f9_b0_0; have c_b0_1 : wc.cell? ⟨w.heap.size, 1, none⟩ = some (.int .i64 a1) := (hTc.cell (p := ⟨w.heap.size, 1, none⟩) (by show w.heap.size < _; omega)).trans f9_b0_1; have c_b0_2 : wc.cell? ⟨w.heap.size, 2, none⟩ = some (.int .i64 b0) := (hTc.cell (p := ⟨w.heap.size, 2, none⟩) (by show w.heap.size < _; omega)).trans f9_b0_2; have c_b0_3 : wc.cell? ⟨w.heap.size, 3, none⟩ = some (.int .i64 b1) := (hTc.cell (p := ⟨w.heap.size, 3, none⟩) (by show w.heap.size < _; omega)).trans f9_b0_3; have c_b1_0 : wc.cell? ⟨w3.heap.size, 0, none⟩ = some (.int .i64 v0) := (hTc.cell (p := ⟨w3.heap.size, 0, none⟩) (by show w3.heap.size < _; omega)).trans f9_b1_0; have c_b1_1 : wc.cell? ⟨w3.heap.size, 1, none⟩ = some (.int .i64 v1) := (hTc.cell (p := ⟨w3.heap.size, 1, none⟩) (by show w3.heap.size < _; omega)).trans f9_b1_1; have c_b2_0 : wc.cell? ⟨w4.heap.size, 0, none⟩ = some (.int .i64 0) := (hTc.cell (p := ⟨w4.heap.size, 0, none⟩) (by show w4.heap.size < _; omega)).trans f9_b2_0; have c_b2_1 : wc.cell? ⟨w4.heap.size, 1, none⟩ = some (.int .i64 0) := (hTc.cell (p := ⟨w4.heap.size, 1, none⟩) (by show w4.heap.size < _; omega)).trans f9_b2_1; clear hbc))
        | fail
        all_goals
          go_wp2_with fail
          go_meet
          exact ⟨rfl, (by (try show Below _ _ _); repeat (first | (with_reducible refine Below.setCell ?_ (by first | omega | (simp <;> omega)) _) | (with_reducible refine Below.alloc ?_ (by first | omega | (simp <;> omega)) _) | (with_reducible refine Below.drew ?_) | (with_reducible exact Below.refl _ _) | (with_reducible exact hTc) | (with_reducible refine below_call ?_ hTc (by first | omega | (simp <;> omega))) | (with_reducible refine below_call ?_ (Drew.below hTc _) (by first | omega | (simp <;> omega)))))⟩
      case rest =>
        obtain ⟨rfl, I⟩ := hcut
        obtain ⟨w10, hww10, hb10⟩ : ∃ x, x = _ ∧ Below w9.heap.size w9 x := ⟨_, rfl, I.out⟩
        subst hww10
        clear I
        have hz10 := hb10.size
        (try simp only [World.size_alloc, World.size_setCell, World.size_drew] at hz10)
        have hB1_10 : Below w1.heap.size w1 w10 := ub0 (hB1_9) hb10
        clear hB1_9
        have hB5_10 : Below w5.heap.size w5 w10 := ub0 (hB5_9) hb10
        clear hB5_9
        have f10_b0_0 := up0 hb10 (by omega) f9_b0_0
        have f10_b0_1 := up0 hb10 (by omega) f9_b0_1
        have f10_b0_2 := up0 hb10 (by omega) f9_b0_2
        have f10_b0_3 := up0 hb10 (by omega) f9_b0_3
        have f10_b1_0 := up0 hb10 (by omega) f9_b1_0
        have f10_b1_1 := up0 hb10 (by omega) f9_b1_1
        have f10_b2_0 := up0 hb10 (by omega) f9_b2_0
        have f10_b2_1 := up0 hb10 (by omega) f9_b2_1
        have hB10 : Below w.heap.size w w10 := ub0 (hB9) hb10
        clear hb10 hB9 f9_b0_0 f9_b0_1 f9_b0_2 f9_b0_3 f9_b1_0 f9_b1_1 f9_b2_0 f9_b2_1
        have l10_0 : w.heap.size < w10.heap.size := by omega
        have l10_1 : w3.heap.size < w10.heap.size := by omega
        have l10_2 : w4.heap.size < w10.heap.size := by omega
        clear l9_0 l9_1 l9_2
        go_wp2_with fail
        refine (hRa _).mono ?_
        rintro e w11 ⟨rfl, hb11⟩
        have hz11 := hb11.size
        (try simp only [World.size_alloc, World.size_setCell, World.size_drew] at hz11)
        have hB1_11 : Below w1.heap.size w1 w11 := ub0 (hB1_10) hb11
        clear hB1_10
        have hB5_11 : Below w5.heap.size w5 w11 := ub0 (hB5_10) hb11
        clear hB5_10
        have f11_b0_0 := up0 hb11 (by omega) f10_b0_0
        have f11_b0_1 := up0 hb11 (by omega) f10_b0_1
        have f11_b0_2 := up0 hb11 (by omega) f10_b0_2
        have f11_b0_3 := up0 hb11 (by omega) f10_b0_3
        have f11_b1_0 := up0 hb11 (by omega) f10_b1_0
        have f11_b1_1 := up0 hb11 (by omega) f10_b1_1
        have f11_b2_0 := up0 hb11 (by omega) f10_b2_0
        have f11_b2_1 := up0 hb11 (by omega) f10_b2_1
        have hB11 : Below w.heap.size w w11 := ub0 (hB10) hb11
        clear hb11 hB10 f10_b0_0 f10_b0_1 f10_b0_2 f10_b0_3 f10_b1_0 f10_b1_1 f10_b2_0 f10_b2_1
        have l11_0 : w.heap.size < w11.heap.size := by omega
        have l11_1 : w3.heap.size < w11.heap.size := by omega
        have l11_2 : w4.heap.size < w11.heap.size := by omega
        clear l10_0 l10_1 l10_2
        go_wp2_with fail
        refine (hIl _).mono ?_
        rintro e w12 ⟨rfl, hb12⟩
        have hz12 := hb12.size
        (try simp only [World.size_alloc, World.size_setCell, World.size_drew] at hz12)
        have hB1_12 : Below w1.heap.size w1 w12 := ub0 (hB1_11) hb12
        clear hB1_11
        have hB5_12 : Below w5.heap.size w5 w12 := ub0 (hB5_11) hb12
        clear hB5_11
        have f12_b0_0 := up0 hb12 (by omega) f11_b0_0
        have f12_b0_1 := up0 hb12 (by omega) f11_b0_1
        have f12_b0_2 := up0 hb12 (by omega) f11_b0_2
        have f12_b0_3 := up0 hb12 (by omega) f11_b0_3
        have f12_b1_0 := up0 hb12 (by omega) f11_b1_0
        have f12_b1_1 := up0 hb12 (by omega) f11_b1_1
        have f12_b2_0 := up0 hb12 (by omega) f11_b2_0
        have f12_b2_1 := up0 hb12 (by omega) f11_b2_1
        have hB12 : Below w.heap.size w w12 := ub0 (hB11) hb12
        clear hb12 hB11 f11_b0_0 f11_b0_1 f11_b0_2 f11_b0_3 f11_b1_0 f11_b1_1 f11_b2_0 f11_b2_1
        have l12_0 : w.heap.size < w12.heap.size := by omega
        have l12_1 : w3.heap.size < w12.heap.size := by omega
        have l12_2 : w4.heap.size < w12.heap.size := by omega
        clear l11_0 l11_1 l11_2
        go_wp2_with fail
        refine (hIh _).mono ?_
        rintro e w13 ⟨rfl, hb13⟩
        have hz13 := hb13.size
        (try simp only [World.size_alloc, World.size_setCell, World.size_drew] at hz13)
        have hB1_13 : Below w1.heap.size w1 w13 := ub0 (hB1_12) hb13
        clear hB1_12
        have hB5_13 : Below w5.heap.size w5 w13 := ub0 (hB5_12) hb13
        clear hB5_12
        have f13_b0_0 := up0 hb13 (by omega) f12_b0_0
        have f13_b0_1 := up0 hb13 (by omega) f12_b0_1
        have f13_b0_2 := up0 hb13 (by omega) f12_b0_2
        have f13_b0_3 := up0 hb13 (by omega) f12_b0_3
        have f13_b1_0 := up0 hb13 (by omega) f12_b1_0
        have f13_b1_1 := up0 hb13 (by omega) f12_b1_1
        have f13_b2_0 := up0 hb13 (by omega) f12_b2_0
        have f13_b2_1 := up0 hb13 (by omega) f12_b2_1
        have hB13 : Below w.heap.size w w13 := ub0 (hB12) hb13
        clear hb13 hB12 f12_b0_0 f12_b0_1 f12_b0_2 f12_b0_3 f12_b1_0 f12_b1_1 f12_b2_0 f12_b2_1
        have l13_0 : w.heap.size < w13.heap.size := by omega
        have l13_1 : w3.heap.size < w13.heap.size := by omega
        have l13_2 : w4.heap.size < w13.heap.size := by omega
        clear l12_0 l12_1 l12_2
        go_wp2_with fail
        refine (hRb _).mono ?_
        rintro e w14 ⟨rfl, hb14⟩
        have hz14 := hb14.size
        (try simp only [World.size_alloc, World.size_setCell, World.size_drew] at hz14)
        have hB1_14 : Below w1.heap.size w1 w14 := ub0 (hB1_13) hb14
        clear hB1_13
        have hB5_14 : Below w5.heap.size w5 w14 := ub0 (hB5_13) hb14
        clear hB5_13
        have f14_b0_0 := up0 hb14 (by omega) f13_b0_0
        have f14_b0_1 := up0 hb14 (by omega) f13_b0_1
        have f14_b0_2 := up0 hb14 (by omega) f13_b0_2
        have f14_b0_3 := up0 hb14 (by omega) f13_b0_3
        have f14_b1_0 := up0 hb14 (by omega) f13_b1_0
        have f14_b1_1 := up0 hb14 (by omega) f13_b1_1
        have f14_b2_0 := up0 hb14 (by omega) f13_b2_0
        have f14_b2_1 := up0 hb14 (by omega) f13_b2_1
        have hB14 : Below w.heap.size w w14 := ub0 (hB13) hb14
        clear hb14 hB13 f13_b0_0 f13_b0_1 f13_b0_2 f13_b0_3 f13_b1_0 f13_b1_1 f13_b2_0 f13_b2_1
        have l14_0 : w.heap.size < w14.heap.size := by omega
        have l14_1 : w3.heap.size < w14.heap.size := by omega
        have l14_2 : w4.heap.size < w14.heap.size := by omega
        clear l13_0 l13_1 l13_2
        go_wp2_with fail
        refine (h7 _ (hx.below (hB14) (Nat.le_refl _))).mono ?_
        rintro e w15 ⟨Ahr, chr, rfl, hr, hb15⟩
        have hz15 := hb15.size
        (try simp only [World.size_alloc, World.size_setCell, World.size_drew] at hz15)
        have hB1_15 : Below w1.heap.size w1 w15 := ub0 (hB1_14) hb15
        clear hB1_14
        have hB5_15 : Below w5.heap.size w5 w15 := ub0 (hB5_14) hb15
        clear hB5_14
        have f15_b0_0 := up0 hb15 (by omega) f14_b0_0
        have f15_b0_1 := up0 hb15 (by omega) f14_b0_1
        have f15_b0_2 := up0 hb15 (by omega) f14_b0_2
        have f15_b0_3 := up0 hb15 (by omega) f14_b0_3
        have f15_b1_0 := up0 hb15 (by omega) f14_b1_0
        have f15_b1_1 := up0 hb15 (by omega) f14_b1_1
        have f15_b2_0 := up0 hb15 (by omega) f14_b2_0
        have f15_b2_1 := up0 hb15 (by omega) f14_b2_1
        have hB15 : Below w.heap.size w w15 := ub0 (hB14) hb15
        clear hb15 hB14 f14_b0_0 f14_b0_1 f14_b0_2 f14_b0_3 f14_b1_0 f14_b1_1 f14_b2_0 f14_b2_1
        have l15_0 : w.heap.size < w15.heap.size := by omega
        have l15_1 : w3.heap.size < w15.heap.size := by omega
        have l15_2 : w4.heap.size < w15.heap.size := by omega
        clear l14_0 l14_1 l14_2
        go_wp2_with fail
        refine (h10 _ _ _ _ _ _ _ (hw.below (hB5_15) (Nat.le_refl _)) (hr.below (Below.refl _ _) (Nat.le_refl _))).mono ?_
        rintro e w16 ⟨rfl, hb16⟩
        have hz16 := hb16.size
        (try simp only [World.size_alloc, World.size_setCell, World.size_drew] at hz16)
        have hB1_16 : Below w1.heap.size w1 w16 := ub0 (hB1_15) hb16
        clear hB1_15
        have hB5_16 : Below w5.heap.size w5 w16 := ub0 (hB5_15) hb16
        clear hB5_15
        have hB15_16 : Below w15.heap.size w15 w16 := ub0 (Below.refl _ _) hb16
        have f16_b0_0 := up0 hb16 (by omega) f15_b0_0
        have f16_b0_1 := up0 hb16 (by omega) f15_b0_1
        have f16_b0_2 := up0 hb16 (by omega) f15_b0_2
        have f16_b0_3 := up0 hb16 (by omega) f15_b0_3
        have f16_b1_0 := up0 hb16 (by omega) f15_b1_0
        have f16_b1_1 := up0 hb16 (by omega) f15_b1_1
        have f16_b2_0 := up0 hb16 (by omega) f15_b2_0
        have f16_b2_1 := up0 hb16 (by omega) f15_b2_1
        have hB16 : Below w.heap.size w w16 := ub0 (hB15) hb16
        clear hb16 hB15 f15_b0_0 f15_b0_1 f15_b0_2 f15_b0_3 f15_b1_0 f15_b1_1 f15_b2_0 f15_b2_1
        have l16_0 : w.heap.size < w16.heap.size := by omega
        have l16_1 : w3.heap.size < w16.heap.size := by omega
        have l16_2 : w4.heap.size < w16.heap.size := by omega
        clear l15_0 l15_1 l15_2
        go_wp2_with fail
        refine (hk _).mono ?_
        rintro e w17 ⟨rfl, hb17⟩
        have hz17 := hb17.size
        (try simp only [World.size_alloc, World.size_setCell, World.size_drew] at hz17)
        have hB1_17 : Below w1.heap.size w1 w17 := ub0 (hB1_16) hb17
        clear hB1_16
        have hB5_17 : Below w5.heap.size w5 w17 := ub0 (hB5_16) hb17
        clear hB5_16
        have hB15_17 : Below w15.heap.size w15 w17 := ub0 (hB15_16) hb17
        clear hB15_16
        have f17_b0_0 := up0 hb17 (by omega) f16_b0_0
        have f17_b0_1 := up0 hb17 (by omega) f16_b0_1
        have f17_b0_2 := up0 hb17 (by omega) f16_b0_2
        have f17_b0_3 := up0 hb17 (by omega) f16_b0_3
        have f17_b1_0 := up0 hb17 (by omega) f16_b1_0
        have f17_b1_1 := up0 hb17 (by omega) f16_b1_1
        have f17_b2_0 := up0 hb17 (by omega) f16_b2_0
        have f17_b2_1 := up0 hb17 (by omega) f16_b2_1
        have hB17 : Below w.heap.size w w17 := ub0 (hB16) hb17
        clear hb17 hB16 f16_b0_0 f16_b0_1 f16_b0_2 f16_b0_3 f16_b1_0 f16_b1_1 f16_b2_0 f16_b2_1
        have l17_0 : w.heap.size < w17.heap.size := by omega
        have l17_1 : w3.heap.size < w17.heap.size := by omega
        have l17_2 : w4.heap.size < w17.heap.size := by omega
        clear l16_0 l16_1 l16_2
        go_wp2
        go_ret
        exact ⟨rfl, hB17⟩

end Go.Proofs.Ytfohdafijfjefaa
