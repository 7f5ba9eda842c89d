/- Contracts: the reference of chapter 1: Scaled, Scale, product, Times, Over. -/
import Derived.Test.YtfohdafijfjefaaRef1
import Derived.Test.YtfohdafijfjefaaScaleMath
import Derived.RegionTactic
import Derived.Deep.QuietTactic
import Derived.BigQuiet
set_option linter.unusedSimpArgs false
set_option linter.unusedVariables false
namespace Go.Proofs.Ytfohdafijfjefaa
open Go.RowKit Go.Shelf

theorem nn_cast (n : Int) (h : n ≠ 0) : (0 : Int) < (n.natAbs : Int) := by omega
theorem great_div (n : Int) (h : n ≠ 0) : 0 ≤ 4000000000000000 / (n.natAbs : Int) ∧ 4000000000000000 / (n.natAbs : Int) ≤ 4000000000000000 := by
  have hn := nn_cast n h
  exact ⟨Int.ediv_nonneg (by omega) (by omega), Int.ediv_le_self _ (by omega)⟩

set_option maxHeartbeats 2000000 in
theorem scaled_any (x num den : Int) (hx : -1000000000000000 ≤ x ∧ x ≤ 1000000000000000) (hn : -1000000000 ≤ num ∧ num ≤ 1000000000) (hd : 1 ≤ den ∧ den ≤ 1000000000) (w : World) :
    Calls Try.prog 92 #[.int .i64 x, .int .i64 num, .int .i64 den] w fun e w' => e = .returned (.tuple #[.int .i64 (scaledS x num den).1, .int .i64 (scaledS x num den).2]) ∧ w = w' := by
  obtain ⟨q1, q2, r1, r2, p1, p2, d1, d2⟩ := scaled_bd x num den hx hn hd
  have hF1 := fun W => floor_any x den (by omega) (by omega) W
  have hF2 := fun W => floor_any ((x - den * (x / den)) * num) den (by omega) (by omega) W
  have hC2 := fun W => ceil_any ((x - den * (x / den)) * num) den (by omega) (by omega) W
  have hA1 := fun W => abs_any (x / den) (by omega) W
  have hA2 := fun W => abs_any num (by omega) W
  obtain ⟨b1, b2, b3, b4⟩ := part_bd (x - den * (x / den)) num den r1 r2 hn
  have hle := natAbs_mul_le (x / den) num 4000000000000000
  unfold scaledS
  generalize cdiv ((x - den * (x / den)) * num) den = c at *
  generalize (x - den * (x / den)) * num / den = f at *
  generalize x / den = q at *
  by_cases h0 : num = 0
  · have h0b : (num != 0) = false := by rw [h0]; rfl
    have hm : q * num = 0 := by rw [h0, Int.mul_zero]
    obtain ⟨m1, m2⟩ : -4000000000000000 ≤ q * num ∧ q * num ≤ 4000000000000000 := by omega
    rw [if_neg (fun h => h.1 h0)]
    clear h0 hm hle
    go_enter Try.func92, Try.ntmps92
    go_wp2_with fail
    refine (hF1 _).mono ?_
    rintro e w0x ⟨rfl, rfl⟩
    go_wp2_with fail
    refine (hF1 _).mono ?_
    rintro e w0x ⟨rfl, rfl⟩
    go_wp2_with fail
    refine (hF2 _).mono ?_
    rintro e w0x ⟨rfl, rfl⟩
    go_wp2_with fail
    refine (hC2 _).mono ?_
    rintro e w0x ⟨rfl, rfl⟩
    go_wp2
    go_ret2
    exact ⟨rfl, rfl⟩
  · have h0b : (num != 0) = true := by rw [bne_iff_ne]; exact h0
    have hg1 := great_div num h0
    have hg0 : ((num.natAbs : Int) == 0) = false := by rw [beq_eq_false_iff_ne]; omega
    have hg2 : 1 ≤ (num.natAbs : Int) := by omega
    by_cases hg : 4000000000000000 / (num.natAbs : Int) < (q.natAbs : Int)
    · rw [if_pos ⟨h0, hg⟩]
      generalize (num.natAbs : Int) = a2 at *
      generalize (q.natAbs : Int) = a1 at *
      clear h0 hle
      cases hs : (decide (0 < q) == decide (0 < num))
      all_goals
        simp only [if_true, Bool.false_eq_true, if_false]
        go_enter Try.func92, Try.ntmps92
        go_wp2_with fail
        refine (hF1 _).mono ?_
        rintro e w0x ⟨rfl, rfl⟩
        go_wp2_with fail
        refine (hF1 _).mono ?_
        rintro e w0x ⟨rfl, rfl⟩
        go_wp2_with fail
        refine (hA1 _).mono ?_
        rintro e w0x ⟨rfl, rfl⟩
        go_wp2_with fail
        refine (hA2 _).mono ?_
        rintro e w0x ⟨rfl, rfl⟩
        go_wp2
        go_ret2
        exact ⟨rfl, rfl⟩
    · obtain ⟨m1, m2⟩ := hle h0 hg
      rw [if_neg (fun h => hg h.2)]
      generalize (num.natAbs : Int) = a2 at *
      generalize (q.natAbs : Int) = a1 at *
      clear h0 hle
      go_enter Try.func92, Try.ntmps92
      go_wp2_with fail
      refine (hF1 _).mono ?_
      rintro e w0x ⟨rfl, rfl⟩
      go_wp2_with fail
      refine (hF1 _).mono ?_
      rintro e w0x ⟨rfl, rfl⟩
      go_wp2_with fail
      refine (hA1 _).mono ?_
      rintro e w0x ⟨rfl, rfl⟩
      go_wp2_with fail
      refine (hA2 _).mono ?_
      rintro e w0x ⟨rfl, rfl⟩
      go_wp2_with fail
      refine (hF2 _).mono ?_
      rintro e w0x ⟨rfl, rfl⟩
      go_wp2_with fail
      refine (hC2 _).mono ?_
      rintro e w0x ⟨rfl, rfl⟩
      go_wp2
      go_ret2
      exact ⟨rfl, rfl⟩

set_option maxHeartbeats 1000000 in
theorem product_any (a b : Int) (ha : -1000000000000000 ≤ a ∧ a ≤ 1000000000000000) (hb : -1000000000000000 ≤ b ∧ b ≤ 1000000000000000) (w : World) :
    Calls Try.prog 94 #[.int .i64 a, .int .i64 b] w fun e w' => e = .returned (.int .i64 (prodS a b)) ∧ w = w' := by
  have hA1 := fun W => abs_any a (by omega) W
  have hA2 := fun W => abs_any b (by omega) W
  have hle := natAbs_mul_le a b 4000000000000000
  unfold prodS
  by_cases h0 : b = 0
  · have h0b : (b != 0) = false := by rw [h0]; rfl
    have hm : a * b = 0 := by rw [h0, Int.mul_zero]
    obtain ⟨m1, m2⟩ : -4000000000000000 ≤ a * b ∧ a * b ≤ 4000000000000000 := by omega
    rw [if_neg (fun h => h.1 h0)]
    clear h0 hm hle
    go_enter Try.func94, Try.ntmps94
    go_wp2
    go_ret
    exact ⟨rfl, rfl⟩
  · have h0b : (b != 0) = true := by rw [bne_iff_ne]; exact h0
    have hg1 := great_div b h0
    have hg0 : ((b.natAbs : Int) == 0) = false := by rw [beq_eq_false_iff_ne]; omega
    have hg2 : 1 ≤ (b.natAbs : Int) := by omega
    by_cases hg : 4000000000000000 / (b.natAbs : Int) < (a.natAbs : Int)
    · rw [if_pos ⟨h0, hg⟩]
      generalize (b.natAbs : Int) = a2 at *
      generalize (a.natAbs : Int) = a1 at *
      clear h0 hle
      cases hs : (decide (0 < a) == decide (0 < b))
      all_goals
        simp only [if_true, Bool.false_eq_true, if_false]
        go_enter Try.func94, Try.ntmps94
        go_wp2_with fail
        refine (hA1 _).mono ?_
        rintro e w0x ⟨rfl, rfl⟩
        go_wp2_with fail
        refine (hA2 _).mono ?_
        rintro e w0x ⟨rfl, rfl⟩
        go_wp2
        go_ret
        exact ⟨rfl, rfl⟩
    · obtain ⟨m1, m2⟩ := hle h0 hg
      rw [if_neg (fun h => hg h.2)]
      generalize (b.natAbs : Int) = a2 at *
      generalize (a.natAbs : Int) = a1 at *
      clear h0 hle
      go_enter Try.func94, Try.ntmps94
      go_wp2_with fail
      refine (hA1 _).mono ?_
      rintro e w0x ⟨rfl, rfl⟩
      go_wp2_with fail
      refine (hA2 _).mono ?_
      rintro e w0x ⟨rfl, rfl⟩
      go_wp2
      go_ret
      exact ⟨rfl, rfl⟩

theorem btw_in (n l m : Int) : btw l m [n] = inS n l m := by simp [btw, inS]

set_option maxHeartbeats 1000000 in
theorem refScale_any (a b num den : Int) (w : World) :
    Calls Try.prog 17 #[.agg #[.int .i64 a, .int .i64 b], .int .i64 num, .int .i64 den] w fun e w' => e = .returned (RE (scaleS ⟨a, b⟩ num den)) ∧ Below w.heap.size w w' := by
  rw [← scale_ref]
  have hR := fun W => refRange_any a b W
  have hI1 := fun W => in_any num (-1000000000) 1000000000 W
  have hI2 := fun W => in_any den 1 1000000000 W
  unfold refScaleS refScaleS.inS'
  rw [btw_in, btw_in]
  cases h0 : okR ⟨a, b⟩ with
  | false =>
    rw [h0] at hR
    rw [if_pos rfl]
    go_enter Try.func17, Try.ntmps17
    go_wp2_with fail
    refine (hR _).mono ?_
    rintro e w1 ⟨rfl, hb1⟩
    have hz1 := hb1.size
    try simp only [World.size_alloc, World.size_setCell, World.size_drew] at hz1
    have hc1_0 := fun o => hb1.cell (p := ⟨w.heap.size, o, none⟩) (by show w.heap.size < _; first | omega | (simp only [World.size_alloc, World.size_setCell, World.size_drew]; omega))
    have hf1_0 := fun o => hb1.frozen (p := ⟨w.heap.size, o, none⟩) (by show w.heap.size < _; first | omega | (simp only [World.size_alloc, World.size_setCell, World.size_drew]; omega))
    have hz1_0 : w.heap.size < w1.heap.size := by omega
    have hc1_1 := fun o => hb1.cell (p := ⟨w.heap.size + 1, o, none⟩) (by show w.heap.size + 1 < _; first | omega | (simp only [World.size_alloc, World.size_setCell, World.size_drew]; omega))
    have hf1_1 := fun o => hb1.frozen (p := ⟨w.heap.size + 1, o, none⟩) (by show w.heap.size + 1 < _; first | omega | (simp only [World.size_alloc, World.size_setCell, World.size_drew]; omega))
    have hz1_1 : w.heap.size + 1 < w1.heap.size := by omega
    go_wp2
    refine bodyPost_ret (v := .tuple #[.agg #[.int .i64 0, .int .i64 0], .int .i64 2]) (by simp [results, Try.results17, go_sem, cell_set, hc1_0, hc1_1]) rfl ⟨rfl, (by (try show Below _ _ _); repeat (first | (with_reducible refine Below.setCell ?_ (by first | omega | (simp <;> omega)) _) | (with_reducible refine Below.alloc ?_ (by first | omega | (simp <;> omega)) _) | (with_reducible refine Below.drew ?_) | (with_reducible exact Below.refl _ _) | (with_reducible refine below_call ?_ (by assumption) (by first | omega | (simp <;> omega))) | (with_reducible refine below_call ?_ (Drew.below (by assumption) _) (by first | omega | (simp <;> omega)))))⟩
  | true =>
    have k0 := (okR_iff _).1 h0
    simp only at k0
    rw [h0] at hR
    rw [if_neg (by decide)]
    cases h1 : inS num (-1000000000) 1000000000 with
    | false =>
      rw [h1] at hI1
      rw [if_pos (.inl rfl)]
      go_enter Try.func17, Try.ntmps17
      go_wp2_with fail
      refine (hR _).mono ?_
      rintro e w1 ⟨rfl, hb1⟩
      have hz1 := hb1.size
      try simp only [World.size_alloc, World.size_setCell, World.size_drew] at hz1
      have hc1_0 := fun o => hb1.cell (p := ⟨w.heap.size, o, none⟩) (by show w.heap.size < _; first | omega | (simp only [World.size_alloc, World.size_setCell, World.size_drew]; omega))
      have hf1_0 := fun o => hb1.frozen (p := ⟨w.heap.size, o, none⟩) (by show w.heap.size < _; first | omega | (simp only [World.size_alloc, World.size_setCell, World.size_drew]; omega))
      have hz1_0 : w.heap.size < w1.heap.size := by omega
      have hc1_1 := fun o => hb1.cell (p := ⟨w.heap.size + 1, o, none⟩) (by show w.heap.size + 1 < _; first | omega | (simp only [World.size_alloc, World.size_setCell, World.size_drew]; omega))
      have hf1_1 := fun o => hb1.frozen (p := ⟨w.heap.size + 1, o, none⟩) (by show w.heap.size + 1 < _; first | omega | (simp only [World.size_alloc, World.size_setCell, World.size_drew]; omega))
      have hz1_1 : w.heap.size + 1 < w1.heap.size := by omega
      go_wp2_with fail
      refine (hI1 _).mono ?_
      rintro e w0x ⟨rfl, rfl⟩
      go_wp2
      refine bodyPost_ret (v := .tuple #[.agg #[.int .i64 0, .int .i64 0], .int .i64 3]) (by simp [results, Try.results17, go_sem, cell_set, hc1_0, hc1_1]) rfl ⟨rfl, (by (try show Below _ _ _); repeat (first | (with_reducible refine Below.setCell ?_ (by first | omega | (simp <;> omega)) _) | (with_reducible refine Below.alloc ?_ (by first | omega | (simp <;> omega)) _) | (with_reducible refine Below.drew ?_) | (with_reducible exact Below.refl _ _) | (with_reducible refine below_call ?_ (by assumption) (by first | omega | (simp <;> omega))) | (with_reducible refine below_call ?_ (Drew.below (by assumption) _) (by first | omega | (simp <;> omega)))))⟩
    | true =>
      have k1 := (inS_iff _ _ _).1 h1
      rw [h1] at hI1
      cases h2 : inS den 1 1000000000 with
      | false =>
        rw [h2] at hI2
        rw [if_pos (.inr rfl)]
        go_enter Try.func17, Try.ntmps17
        go_wp2_with fail
        refine (hR _).mono ?_
        rintro e w1 ⟨rfl, hb1⟩
        have hz1 := hb1.size
        try simp only [World.size_alloc, World.size_setCell, World.size_drew] at hz1
        have hc1_0 := fun o => hb1.cell (p := ⟨w.heap.size, o, none⟩) (by show w.heap.size < _; first | omega | (simp only [World.size_alloc, World.size_setCell, World.size_drew]; omega))
        have hf1_0 := fun o => hb1.frozen (p := ⟨w.heap.size, o, none⟩) (by show w.heap.size < _; first | omega | (simp only [World.size_alloc, World.size_setCell, World.size_drew]; omega))
        have hz1_0 : w.heap.size < w1.heap.size := by omega
        have hc1_1 := fun o => hb1.cell (p := ⟨w.heap.size + 1, o, none⟩) (by show w.heap.size + 1 < _; first | omega | (simp only [World.size_alloc, World.size_setCell, World.size_drew]; omega))
        have hf1_1 := fun o => hb1.frozen (p := ⟨w.heap.size + 1, o, none⟩) (by show w.heap.size + 1 < _; first | omega | (simp only [World.size_alloc, World.size_setCell, World.size_drew]; omega))
        have hz1_1 : w.heap.size + 1 < w1.heap.size := by omega
        go_wp2_with fail
        refine (hI1 _).mono ?_
        rintro e w0x ⟨rfl, rfl⟩
        go_wp2_with fail
        refine (hI2 _).mono ?_
        rintro e w0x ⟨rfl, rfl⟩
        go_wp2
        refine bodyPost_ret (v := .tuple #[.agg #[.int .i64 0, .int .i64 0], .int .i64 3]) (by simp [results, Try.results17, go_sem, cell_set, hc1_0, hc1_1]) rfl ⟨rfl, (by (try show Below _ _ _); repeat (first | (with_reducible refine Below.setCell ?_ (by first | omega | (simp <;> omega)) _) | (with_reducible refine Below.alloc ?_ (by first | omega | (simp <;> omega)) _) | (with_reducible refine Below.drew ?_) | (with_reducible exact Below.refl _ _) | (with_reducible refine below_call ?_ (by assumption) (by first | omega | (simp <;> omega))) | (with_reducible refine below_call ?_ (Drew.below (by assumption) _) (by first | omega | (simp <;> omega)))))⟩
      | true =>
        have k2 := (inS_iff _ _ _).1 h2
        rw [h2] at hI2
        rw [if_neg (by simp)]
        have hS1 := fun W => scaled_any a num den (by omega) k1 k2 W
        have hS2 := fun W => scaled_any b num den (by omega) k1 k2 W
        simp only
        generalize (scaledS a num den).1 = l1 at *
        generalize (scaledS a num den).2 = g1 at *
        generalize (scaledS b num den).1 = l2 at *
        generalize (scaledS b num den).2 = g2 at *
        have hf := fun W => fits_any (min l1 l2) (max g1 g2) W
        generalize madeS (min l1 l2) (max g1 g2) = rr at hf ⊢
        unfold RE at hf ⊢
        go_enter Try.func17, Try.ntmps17
        go_wp2_with fail
        refine (hR _).mono ?_
        rintro e w1 ⟨rfl, hb1⟩
        have hz1 := hb1.size
        try simp only [World.size_alloc, World.size_setCell, World.size_drew] at hz1
        have hc1_0 := fun o => hb1.cell (p := ⟨w.heap.size, o, none⟩) (by show w.heap.size < _; first | omega | (simp only [World.size_alloc, World.size_setCell, World.size_drew]; omega))
        have hf1_0 := fun o => hb1.frozen (p := ⟨w.heap.size, o, none⟩) (by show w.heap.size < _; first | omega | (simp only [World.size_alloc, World.size_setCell, World.size_drew]; omega))
        have hz1_0 : w.heap.size < w1.heap.size := by omega
        have hc1_1 := fun o => hb1.cell (p := ⟨w.heap.size + 1, o, none⟩) (by show w.heap.size + 1 < _; first | omega | (simp only [World.size_alloc, World.size_setCell, World.size_drew]; omega))
        have hf1_1 := fun o => hb1.frozen (p := ⟨w.heap.size + 1, o, none⟩) (by show w.heap.size + 1 < _; first | omega | (simp only [World.size_alloc, World.size_setCell, World.size_drew]; omega))
        have hz1_1 : w.heap.size + 1 < w1.heap.size := by omega
        go_wp2_with fail
        refine (hI1 _).mono ?_
        rintro e w0x ⟨rfl, rfl⟩
        go_wp2_with fail
        refine (hI2 _).mono ?_
        rintro e w0x ⟨rfl, rfl⟩
        go_wp2_with fail
        refine (hS1 _).mono ?_
        rintro e w0x ⟨rfl, rfl⟩
        go_wp2_with fail
        refine (hS2 _).mono ?_
        rintro e w0x ⟨rfl, rfl⟩
        go_wp2_with fail
        refine (hf _).mono ?_
        rintro e w2 ⟨rfl, hb2⟩
        have hz2 := hb2.size
        try simp only [World.size_alloc, World.size_setCell, World.size_drew] at hz2
        have hc2_0 := fun o => hb2.cell (p := ⟨w.heap.size, o, none⟩) (by show w.heap.size < _; first | omega | (simp only [World.size_alloc, World.size_setCell, World.size_drew]; omega))
        have hf2_0 := fun o => hb2.frozen (p := ⟨w.heap.size, o, none⟩) (by show w.heap.size < _; first | omega | (simp only [World.size_alloc, World.size_setCell, World.size_drew]; omega))
        have hz2_0 : w.heap.size < w2.heap.size := by omega
        have hc2_1 := fun o => hb2.cell (p := ⟨w.heap.size + 1, o, none⟩) (by show w.heap.size + 1 < _; first | omega | (simp only [World.size_alloc, World.size_setCell, World.size_drew]; omega))
        have hf2_1 := fun o => hb2.frozen (p := ⟨w.heap.size + 1, o, none⟩) (by show w.heap.size + 1 < _; first | omega | (simp only [World.size_alloc, World.size_setCell, World.size_drew]; omega))
        have hz2_1 : w.heap.size + 1 < w2.heap.size := by omega
        go_wp2
        refine bodyPost_ret (v := .tuple #[.agg #[.int .i64 rr.1.lo, .int .i64 rr.1.hi], .int .i64 rr.2]) (by simp [results, Try.results17, go_sem, cell_set, hc1_0, hc1_1, hc2_0, hc2_1, hz1_0, hz1_1]) rfl ⟨rfl, (by (try show Below _ _ _); repeat (first | (with_reducible refine Below.setCell ?_ (by first | omega | (simp <;> omega)) _) | (with_reducible refine Below.alloc ?_ (by first | omega | (simp <;> omega)) _) | (with_reducible refine Below.drew ?_) | (with_reducible exact Below.refl _ _) | (with_reducible refine below_call ?_ (by assumption) (by first | omega | (simp <;> omega))) | (with_reducible refine below_call ?_ (Drew.below (by assumption) _) (by first | omega | (simp <;> omega)))))⟩

set_option maxRecDepth 100000 in
set_option maxHeartbeats 1000000 in
theorem refTimes_any (a0 a1 b0 b1 : Int) (w : World) :
    Calls Try.prog 19 #[.agg #[.int .i64 a0, .int .i64 a1], .agg #[.int .i64 b0, .int .i64 b1]] w fun e w' => e = .returned (RE (timesS ⟨a0, a1⟩ ⟨b0, b1⟩)) ∧ Below w.heap.size w w' := by
  rw [← times_ref]
  have hA := fun W => refRange_any a0 a1 W
  have hB := fun W => refRange_any b0 b1 W
  unfold refTimesS
  cases h0 : okR ⟨a0, a1⟩ with
  | false =>
    rw [h0] at hA
    rw [if_pos (.inl rfl)]
    go_enter Try.func19, Try.ntmps19
    go_wp2_with fail
    refine (hA _).mono ?_
    rintro e w1 ⟨rfl, hb1⟩
    have hz1 := hb1.size
    try simp only [World.size_alloc, World.size_setCell, World.size_drew] at hz1
    have hc1_0 := fun o => hb1.cell (p := ⟨w.heap.size, o, none⟩) (by show w.heap.size < _; first | omega | (simp only [World.size_alloc, World.size_setCell, World.size_drew]; omega))
    have hf1_0 := fun o => hb1.frozen (p := ⟨w.heap.size, o, none⟩) (by show w.heap.size < _; first | omega | (simp only [World.size_alloc, World.size_setCell, World.size_drew]; omega))
    have hz1_0 : w.heap.size < w1.heap.size := by omega
    have hc1_1 := fun o => hb1.cell (p := ⟨w.heap.size + 1, o, none⟩) (by show w.heap.size + 1 < _; first | omega | (simp only [World.size_alloc, World.size_setCell, World.size_drew]; omega))
    have hf1_1 := fun o => hb1.frozen (p := ⟨w.heap.size + 1, o, none⟩) (by show w.heap.size + 1 < _; first | omega | (simp only [World.size_alloc, World.size_setCell, World.size_drew]; omega))
    have hz1_1 : w.heap.size + 1 < w1.heap.size := by omega
    have hc1_2 := fun o => hb1.cell (p := ⟨w.heap.size + 1 + 1, o, none⟩) (by show w.heap.size + 1 + 1 < _; first | omega | (simp only [World.size_alloc, World.size_setCell, World.size_drew]; omega))
    have hf1_2 := fun o => hb1.frozen (p := ⟨w.heap.size + 1 + 1, o, none⟩) (by show w.heap.size + 1 + 1 < _; first | omega | (simp only [World.size_alloc, World.size_setCell, World.size_drew]; omega))
    have hz1_2 : w.heap.size + 1 + 1 < w1.heap.size := by omega
    go_wp2
    refine bodyPost_ret (v := .tuple #[.agg #[.int .i64 0, .int .i64 0], .int .i64 2]) (by simp [results, Try.results19, go_sem, cell_set, hc1_0, hc1_1, hc1_2]) rfl ⟨rfl, (by (try show Below _ _ _); repeat (first | (with_reducible refine Below.setCell ?_ (by first | omega | (simp <;> omega)) _) | (with_reducible refine Below.alloc ?_ (by first | omega | (simp <;> omega)) _) | (with_reducible refine Below.drew ?_) | (with_reducible exact Below.refl _ _) | (with_reducible refine below_call ?_ (by assumption) (by first | omega | (simp <;> omega))) | (with_reducible refine below_call ?_ (Drew.below (by assumption) _) (by first | omega | (simp <;> omega)))))⟩
  | true =>
    have k0 := (okR_iff _).1 h0
    simp only at k0
    rw [h0] at hA
    cases h1 : okR ⟨b0, b1⟩ with
    | false =>
      rw [h1] at hB
      rw [if_pos (.inr rfl)]
      go_enter Try.func19, Try.ntmps19
      go_wp2_with fail
      refine (hA _).mono ?_
      rintro e w1 ⟨rfl, hb1⟩
      have hz1 := hb1.size
      try simp only [World.size_alloc, World.size_setCell, World.size_drew] at hz1
      have hc1_0 := fun o => hb1.cell (p := ⟨w.heap.size, o, none⟩) (by show w.heap.size < _; first | omega | (simp only [World.size_alloc, World.size_setCell, World.size_drew]; omega))
      have hf1_0 := fun o => hb1.frozen (p := ⟨w.heap.size, o, none⟩) (by show w.heap.size < _; first | omega | (simp only [World.size_alloc, World.size_setCell, World.size_drew]; omega))
      have hz1_0 : w.heap.size < w1.heap.size := by omega
      have hc1_1 := fun o => hb1.cell (p := ⟨w.heap.size + 1, o, none⟩) (by show w.heap.size + 1 < _; first | omega | (simp only [World.size_alloc, World.size_setCell, World.size_drew]; omega))
      have hf1_1 := fun o => hb1.frozen (p := ⟨w.heap.size + 1, o, none⟩) (by show w.heap.size + 1 < _; first | omega | (simp only [World.size_alloc, World.size_setCell, World.size_drew]; omega))
      have hz1_1 : w.heap.size + 1 < w1.heap.size := by omega
      have hc1_2 := fun o => hb1.cell (p := ⟨w.heap.size + 1 + 1, o, none⟩) (by show w.heap.size + 1 + 1 < _; first | omega | (simp only [World.size_alloc, World.size_setCell, World.size_drew]; omega))
      have hf1_2 := fun o => hb1.frozen (p := ⟨w.heap.size + 1 + 1, o, none⟩) (by show w.heap.size + 1 + 1 < _; first | omega | (simp only [World.size_alloc, World.size_setCell, World.size_drew]; omega))
      have hz1_2 : w.heap.size + 1 + 1 < w1.heap.size := by omega
      go_wp2_with fail
      refine (hB _).mono ?_
      rintro e w2 ⟨rfl, hb2⟩
      have hz2 := hb2.size
      try simp only [World.size_alloc, World.size_setCell, World.size_drew] at hz2
      have hc2_0 := fun o => hb2.cell (p := ⟨w.heap.size, o, none⟩) (by show w.heap.size < _; first | omega | (simp only [World.size_alloc, World.size_setCell, World.size_drew]; omega))
      have hf2_0 := fun o => hb2.frozen (p := ⟨w.heap.size, o, none⟩) (by show w.heap.size < _; first | omega | (simp only [World.size_alloc, World.size_setCell, World.size_drew]; omega))
      have hz2_0 : w.heap.size < w2.heap.size := by omega
      have hc2_1 := fun o => hb2.cell (p := ⟨w.heap.size + 1, o, none⟩) (by show w.heap.size + 1 < _; first | omega | (simp only [World.size_alloc, World.size_setCell, World.size_drew]; omega))
      have hf2_1 := fun o => hb2.frozen (p := ⟨w.heap.size + 1, o, none⟩) (by show w.heap.size + 1 < _; first | omega | (simp only [World.size_alloc, World.size_setCell, World.size_drew]; omega))
      have hz2_1 : w.heap.size + 1 < w2.heap.size := by omega
      have hc2_2 := fun o => hb2.cell (p := ⟨w.heap.size + 1 + 1, o, none⟩) (by show w.heap.size + 1 + 1 < _; first | omega | (simp only [World.size_alloc, World.size_setCell, World.size_drew]; omega))
      have hf2_2 := fun o => hb2.frozen (p := ⟨w.heap.size + 1 + 1, o, none⟩) (by show w.heap.size + 1 + 1 < _; first | omega | (simp only [World.size_alloc, World.size_setCell, World.size_drew]; omega))
      have hz2_2 : w.heap.size + 1 + 1 < w2.heap.size := by omega
      go_wp2
      refine bodyPost_ret (v := .tuple #[.agg #[.int .i64 0, .int .i64 0], .int .i64 2]) (by simp [results, Try.results19, go_sem, cell_set, hc1_0, hc1_1, hc1_2, hc2_0, hc2_1, hc2_2, hz1_0, hz1_1, hz1_2]) rfl ⟨rfl, (by (try show Below _ _ _); repeat (first | (with_reducible refine Below.setCell ?_ (by first | omega | (simp <;> omega)) _) | (with_reducible refine Below.alloc ?_ (by first | omega | (simp <;> omega)) _) | (with_reducible refine Below.drew ?_) | (with_reducible exact Below.refl _ _) | (with_reducible refine below_call ?_ (by assumption) (by first | omega | (simp <;> omega))) | (with_reducible refine below_call ?_ (Drew.below (by assumption) _) (by first | omega | (simp <;> omega)))))⟩
    | true =>
      have k1 := (okR_iff _).1 h1
      simp only at k1
      rw [h1] at hB
      rw [if_neg (by simp)]
      simp only
      have hf := fun W => fits_any (min (prodS a0 b0) (min (prodS a0 b1) (min (prodS a1 b0) (prodS a1 b1)))) (max (prodS a0 b0) (max (prodS a0 b1) (max (prodS a1 b0) (prodS a1 b1)))) W
      generalize madeS (min (prodS a0 b0) (min (prodS a0 b1) (min (prodS a1 b0) (prodS a1 b1)))) (max (prodS a0 b0) (max (prodS a0 b1) (max (prodS a1 b0) (prodS a1 b1)))) = rr at hf ⊢
      unfold RE at hf ⊢
      go_enter Try.func19, Try.ntmps19
      go_wp2_with fail
      refine (hA _).mono ?_
      rintro e w1 ⟨rfl, hb1⟩
      have hz1 := hb1.size
      try simp only [World.size_alloc, World.size_setCell, World.size_drew] at hz1
      have hc1_0 := fun o => hb1.cell (p := ⟨w.heap.size, o, none⟩) (by show w.heap.size < _; first | omega | (simp only [World.size_alloc, World.size_setCell, World.size_drew]; omega))
      have hf1_0 := fun o => hb1.frozen (p := ⟨w.heap.size, o, none⟩) (by show w.heap.size < _; first | omega | (simp only [World.size_alloc, World.size_setCell, World.size_drew]; omega))
      have hz1_0 : w.heap.size < w1.heap.size := by omega
      have hc1_1 := fun o => hb1.cell (p := ⟨w.heap.size + 1, o, none⟩) (by show w.heap.size + 1 < _; first | omega | (simp only [World.size_alloc, World.size_setCell, World.size_drew]; omega))
      have hf1_1 := fun o => hb1.frozen (p := ⟨w.heap.size + 1, o, none⟩) (by show w.heap.size + 1 < _; first | omega | (simp only [World.size_alloc, World.size_setCell, World.size_drew]; omega))
      have hz1_1 : w.heap.size + 1 < w1.heap.size := by omega
      have hc1_2 := fun o => hb1.cell (p := ⟨w.heap.size + 1 + 1, o, none⟩) (by show w.heap.size + 1 + 1 < _; first | omega | (simp only [World.size_alloc, World.size_setCell, World.size_drew]; omega))
      have hf1_2 := fun o => hb1.frozen (p := ⟨w.heap.size + 1 + 1, o, none⟩) (by show w.heap.size + 1 + 1 < _; first | omega | (simp only [World.size_alloc, World.size_setCell, World.size_drew]; omega))
      have hz1_2 : w.heap.size + 1 + 1 < w1.heap.size := by omega
      go_wp2_with fail
      refine (hB _).mono ?_
      rintro e w2 ⟨rfl, hb2⟩
      have hz2 := hb2.size
      try simp only [World.size_alloc, World.size_setCell, World.size_drew] at hz2
      have hc2_0 := fun o => hb2.cell (p := ⟨w.heap.size, o, none⟩) (by show w.heap.size < _; first | omega | (simp only [World.size_alloc, World.size_setCell, World.size_drew]; omega))
      have hf2_0 := fun o => hb2.frozen (p := ⟨w.heap.size, o, none⟩) (by show w.heap.size < _; first | omega | (simp only [World.size_alloc, World.size_setCell, World.size_drew]; omega))
      have hz2_0 : w.heap.size < w2.heap.size := by omega
      have hc2_1 := fun o => hb2.cell (p := ⟨w.heap.size + 1, o, none⟩) (by show w.heap.size + 1 < _; first | omega | (simp only [World.size_alloc, World.size_setCell, World.size_drew]; omega))
      have hf2_1 := fun o => hb2.frozen (p := ⟨w.heap.size + 1, o, none⟩) (by show w.heap.size + 1 < _; first | omega | (simp only [World.size_alloc, World.size_setCell, World.size_drew]; omega))
      have hz2_1 : w.heap.size + 1 < w2.heap.size := by omega
      have hc2_2 := fun o => hb2.cell (p := ⟨w.heap.size + 1 + 1, o, none⟩) (by show w.heap.size + 1 + 1 < _; first | omega | (simp only [World.size_alloc, World.size_setCell, World.size_drew]; omega))
      have hf2_2 := fun o => hb2.frozen (p := ⟨w.heap.size + 1 + 1, o, none⟩) (by show w.heap.size + 1 + 1 < _; first | omega | (simp only [World.size_alloc, World.size_setCell, World.size_drew]; omega))
      have hz2_2 : w.heap.size + 1 + 1 < w2.heap.size := by omega
      go_wp2_with fail
      go_quiet ((go_at_call 94; exact quiet_same (product_any _ _ (by omega) (by omega) _)))
      generalize hwq3 : World.drewN w2 _ = w3
      have hd3 : Drew w2 w3 := ⟨_, hwq3.symm⟩
      have hb3 : Below w2.heap.size w2 w3 := hd3.below _
      have hz3 := hb3.size
      clear hwq3
      have hc3_0 := fun o => hb3.cell (p := ⟨w.heap.size, o, none⟩) (by show w.heap.size < _; omega)
      have hf3_0 := fun o => hb3.frozen (p := ⟨w.heap.size, o, none⟩) (by show w.heap.size < _; omega)
      have hz3_0 : w.heap.size < w3.heap.size := by omega
      have hc3_1 := fun o => hb3.cell (p := ⟨w.heap.size + 1, o, none⟩) (by show w.heap.size + 1 < _; omega)
      have hf3_1 := fun o => hb3.frozen (p := ⟨w.heap.size + 1, o, none⟩) (by show w.heap.size + 1 < _; omega)
      have hz3_1 : w.heap.size + 1 < w3.heap.size := by omega
      have hc3_2 := fun o => hb3.cell (p := ⟨w.heap.size + 1 + 1, o, none⟩) (by show w.heap.size + 1 + 1 < _; omega)
      have hf3_2 := fun o => hb3.frozen (p := ⟨w.heap.size + 1 + 1, o, none⟩) (by show w.heap.size + 1 + 1 < _; omega)
      have hz3_2 : w.heap.size + 1 + 1 < w3.heap.size := by omega
      go_wp2_with fail
      refine (hf _).mono ?_
      rintro e w4 ⟨rfl, hb4⟩
      have hz4 := hb4.size
      try simp only [World.size_alloc, World.size_setCell, World.size_drew] at hz4
      have hc4_0 := fun o => hb4.cell (p := ⟨w.heap.size, o, none⟩) (by show w.heap.size < _; first | omega | (simp only [World.size_alloc, World.size_setCell, World.size_drew]; omega))
      have hf4_0 := fun o => hb4.frozen (p := ⟨w.heap.size, o, none⟩) (by show w.heap.size < _; first | omega | (simp only [World.size_alloc, World.size_setCell, World.size_drew]; omega))
      have hz4_0 : w.heap.size < w4.heap.size := by omega
      have hc4_1 := fun o => hb4.cell (p := ⟨w.heap.size + 1, o, none⟩) (by show w.heap.size + 1 < _; first | omega | (simp only [World.size_alloc, World.size_setCell, World.size_drew]; omega))
      have hf4_1 := fun o => hb4.frozen (p := ⟨w.heap.size + 1, o, none⟩) (by show w.heap.size + 1 < _; first | omega | (simp only [World.size_alloc, World.size_setCell, World.size_drew]; omega))
      have hz4_1 : w.heap.size + 1 < w4.heap.size := by omega
      have hc4_2 := fun o => hb4.cell (p := ⟨w.heap.size + 1 + 1, o, none⟩) (by show w.heap.size + 1 + 1 < _; first | omega | (simp only [World.size_alloc, World.size_setCell, World.size_drew]; omega))
      have hf4_2 := fun o => hb4.frozen (p := ⟨w.heap.size + 1 + 1, o, none⟩) (by show w.heap.size + 1 + 1 < _; first | omega | (simp only [World.size_alloc, World.size_setCell, World.size_drew]; omega))
      have hz4_2 : w.heap.size + 1 + 1 < w4.heap.size := by omega
      go_wp2
      refine bodyPost_ret (v := .tuple #[.agg #[.int .i64 rr.1.lo, .int .i64 rr.1.hi], .int .i64 rr.2]) (by simp [results, Try.results19, go_sem, cell_set, hc1_0, hc1_1, hc1_2, hc2_0, hc2_1, hc2_2, hc3_0, hc3_1, hc3_2, hc4_2, hz1_0, hz1_1, hz1_2, hz2_0, hz2_1, hz2_2, hz3_2]) rfl ⟨rfl, (by (try show Below _ _ _); repeat (first | (with_reducible refine Below.setCell ?_ (by first | omega | (simp <;> omega)) _) | (with_reducible refine Below.alloc ?_ (by first | omega | (simp <;> omega)) _) | (with_reducible refine Below.drew ?_) | (with_reducible exact Below.refl _ _) | (with_reducible refine below_call ?_ (by assumption) (by first | omega | (simp <;> omega))) | (with_reducible refine below_call ?_ (Drew.below (by assumption) _) (by first | omega | (simp <;> omega)))))⟩

end Go.Proofs.Ytfohdafijfjefaa
