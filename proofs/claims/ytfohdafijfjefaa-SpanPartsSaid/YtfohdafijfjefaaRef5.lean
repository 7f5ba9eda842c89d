/- Contracts: the reference's Compare, Of. -/
import Derived.Test.YtfohdafijfjefaaRef4
set_option linter.unusedSimpArgs false
set_option linter.unusedVariables false
namespace Go.Proofs.Ytfohdafijfjefaa
open Go.RowKit Go.Shelf

set_option maxHeartbeats 400000 in
theorem refCompare_any (a0 a1 b0 b1 : Int) (ha : okP ⟨a0, a1⟩ = true) (hb : okP ⟨b0, b1⟩ = true) (w : World) :
    Calls Try.prog 58 #[.agg #[.int .i64 a0, .int .i64 a1], .agg #[.int .i64 b0, .int .i64 b1]] w fun e w' => e = .returned (.int .i64 (cmpS (a0 * b1) (b0 * a1))) ∧ Below w.heap.size w w' := by
  obtain ⟨k0, k1, _⟩ := (okP_iff _).1 ha
  obtain ⟨k2, k3, _⟩ := (okP_iff _).1 hb
  simp only at k0 k1 k2 k3
  have m1 : -1000000000000000000 ≤ a0 * b1 ∧ a0 * b1 ≤ 1000000000000000000 := by
    have := Int.mul_le_mul_of_nonneg_right k0.1 (show 0 ≤ b1 by omega)
    have := Int.mul_le_mul_of_nonneg_right k0.2 (show 0 ≤ b1 by omega)
    omega
  have m2 : -1000000000000000000 ≤ b0 * a1 ∧ b0 * a1 ≤ 1000000000000000000 := by
    have := Int.mul_le_mul_of_nonneg_right k2.1 (show 0 ≤ a1 by omega)
    have := Int.mul_le_mul_of_nonneg_right k2.2 (show 0 ≤ a1 by omega)
    omega
  have e1 : IntKind.i64.wrap (a0 * b1) = a0 * b1 := by rw [IntKind.wrap_i64]; omega
  have e2 : IntKind.i64.wrap (b0 * a1) = b0 * a1 := by rw [IntKind.wrap_i64]; omega
  unfold cmpS
  by_cases h1 : a0 * b1 < b0 * a1
  · rw [if_pos h1]
    go_enter Try.func58, Try.ntmps58
    go_wp2_with fail
    go_quiet (fail)
    go_wp2
    go_ret
    exact ⟨rfl, below_drewN' (show Below w.heap.size w _ from (by (try show Below _ _ _); repeat (first | (with_reducible refine Below.setCell ?_ (by first | omega | (simp <;> omega)) _) | (with_reducible refine Below.alloc ?_ (by first | omega | (simp <;> omega)) _) | (with_reducible refine Below.drew ?_) | (with_reducible exact Below.refl _ _) | (with_reducible refine below_call ?_ (by assumption) (by first | omega | (simp <;> omega))) | (with_reducible refine below_call ?_ (Drew.below (by assumption) _) (by first | omega | (simp <;> omega)))))) _⟩
  · rw [if_neg h1]
    by_cases h2 : b0 * a1 < a0 * b1
    · rw [if_pos h2]
      go_enter Try.func58, Try.ntmps58
      go_wp2_with fail
      go_quiet (fail)
      go_wp2
      go_ret
      exact ⟨rfl, below_drewN' (show Below w.heap.size w _ from (by (try show Below _ _ _); repeat (first | (with_reducible refine Below.setCell ?_ (by first | omega | (simp <;> omega)) _) | (with_reducible refine Below.alloc ?_ (by first | omega | (simp <;> omega)) _) | (with_reducible refine Below.drew ?_) | (with_reducible exact Below.refl _ _) | (with_reducible refine below_call ?_ (by assumption) (by first | omega | (simp <;> omega))) | (with_reducible refine below_call ?_ (Drew.below (by assumption) _) (by first | omega | (simp <;> omega)))))) _⟩
    · rw [if_neg h2]
      go_enter Try.func58, Try.ntmps58
      go_wp2_with fail
      go_quiet (fail)
      go_wp2
      go_ret
      exact ⟨rfl, below_drewN' (show Below w.heap.size w _ from (by (try show Below _ _ _); repeat (first | (with_reducible refine Below.setCell ?_ (by first | omega | (simp <;> omega)) _) | (with_reducible refine Below.alloc ?_ (by first | omega | (simp <;> omega)) _) | (with_reducible refine Below.drew ?_) | (with_reducible exact Below.refl _ _) | (with_reducible refine below_call ?_ (by assumption) (by first | omega | (simp <;> omega))) | (with_reducible refine below_call ?_ (Drew.below (by assumption) _) (by first | omega | (simp <;> omega)))))) _⟩

end Go.Proofs.Ytfohdafijfjefaa
