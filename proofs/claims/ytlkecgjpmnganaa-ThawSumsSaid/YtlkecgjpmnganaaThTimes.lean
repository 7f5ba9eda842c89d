/- Contracts: span.Times, and its result for small numbers that are not negative. -/
import Derived.Test.YtlkecgjpmnganaaSpan1
import Derived.Test.YtlkecgjpmnganaaScaleMath
import Derived.Deep.QuietTactic
import Derived.BigQuiet
set_option linter.unusedSimpArgs false
set_option linter.unusedVariables false
namespace Go.Proofs.Ytlkecgjpmnganaa
open Go.RowKit Go.Shelf

theorem all2 (a b : R) : [a, b].all okR = (okR a && okR b) := by simp

set_option maxRecDepth 100000 in
set_option maxHeartbeats 1000000 in
theorem Times_any (a0 a1 b0 b1 : Int) (w : World) :
    Calls Try.prog 85 #[.agg #[.int .i64 a0, .int .i64 a1], .agg #[.int .i64 b0, .int .i64 b1]] w fun e w' => e = .returned (RE (timesS ⟨a0, a1⟩ ⟨b0, b1⟩)) ∧ Below w.heap.size w w' := by
  have hR := fun (A : Option Addr) (W : World) h => isRange_any 0 A 2 2 [⟨a0, a1⟩, ⟨b0, b1⟩] W h rfl two_le
  rw [all2] at hR
  unfold timesS
  by_cases hbad : okR ⟨a0, a1⟩ = false ∨ okR ⟨b0, b1⟩ = false
  · have hr : (okR ⟨a0, a1⟩ && okR ⟨b0, b1⟩) = false := by rcases hbad with h | h <;> simp [h]
    rw [hr] at hR
    rw [if_pos hbad]
    clear hbad hr
    go_enter Try.func85, Try.ntmps85
    go_wp2_with fail
    refine (hR _ _ (Elems.of2 (by simp [go_sem]) (by simp [go_sem]) (by simp [go_sem]) (by simp [go_sem]) (by simp))).mono ?_
    rintro e w1 ⟨rfl, hb1⟩
    have hz1 := hb1.size
    try simp only [World.size_alloc, World.size_setCell, World.size_drew] at hz1
    have hc1_0 := fun o => hb1.cell (p := ⟨w.heap.size, o, none⟩) (by show w.heap.size < _; first | omega | (simp only [World.size_alloc, World.size_setCell, World.size_drew]; omega))
    have hf1_0 := fun o => hb1.frozen (p := ⟨w.heap.size, o, none⟩) (by show w.heap.size < _; first | omega | (simp only [World.size_alloc, World.size_setCell, World.size_drew]; omega))
    have hz1_0 : w.heap.size < w1.heap.size := by omega
    have hc1_1 := fun o => hb1.cell (p := ⟨w.heap.size + 1, o, none⟩) (by show w.heap.size + 1 < _; first | omega | (simp only [World.size_alloc, World.size_setCell, World.size_drew]; omega))
    have hf1_1 := fun o => hb1.frozen (p := ⟨w.heap.size + 1, o, none⟩) (by show w.heap.size + 1 < _; first | omega | (simp only [World.size_alloc, World.size_setCell, World.size_drew]; omega))
    have hz1_1 : w.heap.size + 1 < w1.heap.size := by omega
    have hc1_2 := fun o => hb1.cell (p := ⟨w.heap.size + 1 + 1, o, none⟩) (by show w.heap.size + 1 + 1 < _; first | omega | (simp only [World.size_alloc, World.size_setCell, World.size_drew]; omega))
    have hf1_2 := fun o => hb1.frozen (p := ⟨w.heap.size + 1 + 1, o, none⟩) (by show w.heap.size + 1 + 1 < _; first | omega | (simp only [World.size_alloc, World.size_setCell, World.size_drew]; omega))
    have hz1_2 : w.heap.size + 1 + 1 < w1.heap.size := by omega
    go_wp2
    refine bodyPost_ret (v := .tuple #[.agg #[.int .i64 0, .int .i64 0], .int .i64 2]) (by simp [results, Try.results85, go_sem, cell_set, hc1_0, hc1_1, hc1_2]) rfl ⟨rfl, (by (try show Below _ _ _); repeat (first | (with_reducible refine Below.setCell ?_ (by first | omega | (simp <;> omega)) _) | (with_reducible refine Below.alloc ?_ (by first | omega | (simp <;> omega)) _) | (with_reducible refine Below.drew ?_) | (with_reducible exact Below.refl _ _) | (with_reducible refine below_call ?_ (by assumption) (by first | omega | (simp <;> omega))) | (with_reducible refine below_call ?_ (Drew.below (by assumption) _) (by first | omega | (simp <;> omega)))))⟩
  · have hk1 : okR ⟨a0, a1⟩ = true := by cases h : okR ⟨a0, a1⟩ with
      | true => rfl
      | false => exact absurd (.inl h) hbad
    have hk2 : okR ⟨b0, b1⟩ = true := by cases h : okR ⟨b0, b1⟩ with
      | true => rfl
      | false => exact absurd (.inr h) hbad
    have k0 := (okR_iff _).1 hk1
    have k1 := (okR_iff _).1 hk2
    simp only at k0 k1
    have hr : (okR ⟨a0, a1⟩ && okR ⟨b0, b1⟩) = true := by simp [hk1, hk2]
    rw [hr] at hR
    rw [if_neg hbad]
    clear hbad hr
    have hO := fun (A : Option Addr) (W : World) h => over_any 0 A 4 4 [⟨a0, b0, 1⟩, ⟨a0, b1, 1⟩, ⟨a1, b0, 1⟩, ⟨a1, b1, 1⟩] W h rfl (by unfold maxLen; omega) (show Aside (∀ q ∈ ([⟨a0, b0, 1⟩, ⟨a0, b1, 1⟩, ⟨a1, b0, 1⟩, ⟨a1, b1, 1⟩] : List Q3), q.ok) from by
      intro q hq
      simp only [List.mem_cons, List.not_mem_nil, or_false] at hq
      rcases hq with rfl | rfl | rfl | rfl <;> (unfold Q3.ok; simp only; omega))
    simp only
    generalize overS [⟨a0, b0, 1⟩, ⟨a0, b1, 1⟩, ⟨a1, b0, 1⟩, ⟨a1, b1, 1⟩] = rr at hO ⊢
    unfold RE at hO ⊢
    go_enter Try.func85, Try.ntmps85
    go_wp2_with fail
    refine (hR _ _ (Elems.of2 (by simp [go_sem]) (by simp [go_sem]) (by simp [go_sem]) (by simp [go_sem]) (by simp))).mono ?_
    rintro e w1 ⟨rfl, hb1⟩
    have hz1 := hb1.size
    try simp only [World.size_alloc, World.size_setCell, World.size_drew] at hz1
    have hc1_0 := fun o => hb1.cell (p := ⟨w.heap.size, o, none⟩) (by show w.heap.size < _; first | omega | (simp only [World.size_alloc, World.size_setCell, World.size_drew]; omega))
    have hf1_0 := fun o => hb1.frozen (p := ⟨w.heap.size, o, none⟩) (by show w.heap.size < _; first | omega | (simp only [World.size_alloc, World.size_setCell, World.size_drew]; omega))
    have hz1_0 : w.heap.size < w1.heap.size := by omega
    have hc1_1 := fun o => hb1.cell (p := ⟨w.heap.size + 1, o, none⟩) (by show w.heap.size + 1 < _; first | omega | (simp only [World.size_alloc, World.size_setCell, World.size_drew]; omega))
    have hf1_1 := fun o => hb1.frozen (p := ⟨w.heap.size + 1, o, none⟩) (by show w.heap.size + 1 < _; first | omega | (simp only [World.size_alloc, World.size_setCell, World.size_drew]; omega))
    have hz1_1 : w.heap.size + 1 < w1.heap.size := by omega
    have hc1_2 := fun o => hb1.cell (p := ⟨w.heap.size + 1 + 1, o, none⟩) (by show w.heap.size + 1 + 1 < _; first | omega | (simp only [World.size_alloc, World.size_setCell, World.size_drew]; omega))
    have hf1_2 := fun o => hb1.frozen (p := ⟨w.heap.size + 1 + 1, o, none⟩) (by show w.heap.size + 1 + 1 < _; first | omega | (simp only [World.size_alloc, World.size_setCell, World.size_drew]; omega))
    have hz1_2 : w.heap.size + 1 + 1 < w1.heap.size := by omega
    go_wp2_with fail
    refine (hO _ _ (Elems.q4 (by simp [go_sem]) (by simp [go_sem]) (by simp [go_sem]) (by simp [go_sem]) (by simp [go_sem]) (by simp [go_sem]) (by simp [go_sem]) (by simp [go_sem]) (by simp [go_sem]) (by simp [go_sem]) (by simp [go_sem]) (by simp [go_sem]) (by simp))).mono ?_
    rintro e w2 ⟨rfl, hb2⟩
    have hz2 := hb2.size
    try simp only [World.size_alloc, World.size_setCell, World.size_drew] at hz2
    have hc2_0 := fun o => hb2.cell (p := ⟨w.heap.size, o, none⟩) (by show w.heap.size < _; first | omega | (simp only [World.size_alloc, World.size_setCell, World.size_drew]; omega))
    have hf2_0 := fun o => hb2.frozen (p := ⟨w.heap.size, o, none⟩) (by show w.heap.size < _; first | omega | (simp only [World.size_alloc, World.size_setCell, World.size_drew]; omega))
    have hz2_0 : w.heap.size < w2.heap.size := by omega
    have hc2_1 := fun o => hb2.cell (p := ⟨w.heap.size + 1, o, none⟩) (by show w.heap.size + 1 < _; first | omega | (simp only [World.size_alloc, World.size_setCell, World.size_drew]; omega))
    have hf2_1 := fun o => hb2.frozen (p := ⟨w.heap.size + 1, o, none⟩) (by show w.heap.size + 1 < _; first | omega | (simp only [World.size_alloc, World.size_setCell, World.size_drew]; omega))
    have hz2_1 : w.heap.size + 1 < w2.heap.size := by omega
    have hc2_2 := fun o => hb2.cell (p := ⟨w.heap.size + 1 + 1, o, none⟩) (by show w.heap.size + 1 + 1 < _; first | omega | (simp only [World.size_alloc, World.size_setCell, World.size_drew]; omega))
    have hf2_2 := fun o => hb2.frozen (p := ⟨w.heap.size + 1 + 1, o, none⟩) (by show w.heap.size + 1 + 1 < _; first | omega | (simp only [World.size_alloc, World.size_setCell, World.size_drew]; omega))
    have hz2_2 : w.heap.size + 1 + 1 < w2.heap.size := by omega
    go_wp2
    refine bodyPost_ret (v := .tuple #[.agg #[.int .i64 rr.1.lo, .int .i64 rr.1.hi], .int .i64 rr.2]) (by simp [results, Try.results85, go_sem, cell_set, hc1_0, hc1_1, hc1_2, hc2_0, hc2_1, hc2_2, hz1_0, hz1_1, hz1_2]) rfl ⟨rfl, (by (try show Below _ _ _); repeat (first | (with_reducible refine Below.setCell ?_ (by first | omega | (simp <;> omega)) _) | (with_reducible refine Below.alloc ?_ (by first | omega | (simp <;> omega)) _) | (with_reducible refine Below.drew ?_) | (with_reducible exact Below.refl _ _) | (with_reducible refine below_call ?_ (by assumption) (by first | omega | (simp <;> omega))) | (with_reducible refine below_call ?_ (Drew.below (by assumption) _) (by first | omega | (simp <;> omega)))))⟩

theorem prodS_small {a b : Int} (ha : 0 ≤ a) (hb : 0 ≤ b) (h : a * b ≤ 4000000000000000) : prodS a b = a * b := by
  unfold prodS
  rw [if_neg]
  rintro ⟨h1, h2⟩
  have e1 : (b.natAbs : Int) = b := by omega
  have e2 : (a.natAbs : Int) = a := by omega
  rw [e1, e2] at h2
  have h3 : a ≤ 4000000000000000 / b := Int.le_ediv_of_mul_le (by omega) h
  omega
theorem times_small {a0 a1 b0 b1 : Int} (h1 : 0 ≤ a0) (h2 : a0 ≤ a1) (h3 : a1 ≤ 1000000000000) (h4 : 0 ≤ b0) (h5 : b0 ≤ b1) (h6 : b1 ≤ 1000) : timesS ⟨a0, a1⟩ ⟨b0, b1⟩ = (⟨a0 * b0, a1 * b1⟩, 0) := by
  have k1 : a0 * b0 ≤ a0 * b1 := Int.mul_le_mul_of_nonneg_left h5 h1
  have k2 : a0 * b1 ≤ a1 * b1 := Int.mul_le_mul_of_nonneg_right h2 (by omega)
  have k3 : a0 * b0 ≤ a1 * b0 := Int.mul_le_mul_of_nonneg_right h2 h4
  have k4 : a1 * b0 ≤ a1 * b1 := Int.mul_le_mul_of_nonneg_left h5 (by omega)
  have k5 : a1 * b1 ≤ 1000000000000 * 1000 := Int.mul_le_mul h3 h6 (by omega) (by omega)
  have k6 : 0 ≤ a0 * b0 := Int.mul_nonneg h1 h4
  rw [← times_ref]
  unfold refTimesS
  have o1 : okR ⟨a0, a1⟩ = true := (okR_iff _).2 ⟨by simp only; omega, h2, by simp only; omega⟩
  have o2 : okR ⟨b0, b1⟩ = true := (okR_iff _).2 ⟨by simp only; omega, h5, by simp only; omega⟩
  rw [o1, o2, if_neg (by simp)]
  simp only
  rw [prodS_small h1 h4 (by omega), prodS_small h1 (by omega) (by omega), prodS_small (by omega) h4 (by omega), prodS_small (by omega) (by omega) (by omega)]
  rw [show min (a0 * b0) (min (a0 * b1) (min (a1 * b0) (a1 * b1))) = a0 * b0 by omega, show max (a0 * b0) (max (a0 * b1) (max (a1 * b0) (a1 * b1))) = a1 * b1 by omega]
  have o3 : okR ⟨a0 * b0, a1 * b1⟩ = true := (okR_iff _).2 ⟨by simp only; omega, by simp only; omega, by simp only; omega⟩
  unfold madeS
  rw [o3]
  rfl

end Go.Proofs.Ytlkecgjpmnganaa
