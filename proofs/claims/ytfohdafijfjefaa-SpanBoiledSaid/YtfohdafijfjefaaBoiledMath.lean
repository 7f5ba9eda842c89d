/- The arithmetic of SpanBoiled: no program in sight. -/
import Derived.Test.YtfohdafijfjefaaIntMath
set_option linter.unusedSimpArgs false
set_option linter.unusedVariables false
namespace Go.Proofs.Ytfohdafijfjefaa

structure Boiled (a s b w : Int) : Prop where
  w0 : 0 ≤ w
  wa : w ≤ a
  q0 : b * (a - w + s) ≤ s * 10000
  q1 : 0 < w → s * 10000 < b * (a - w + 1 + s)
  xl : 0 ≤ s * 10000 / (a + s)
  yb : b ≤ s * 10000 / (a - w + s)
  lo : s * 10000 / (a + s) ≤ s * 10000 / (a - w + s)
  hi : cdiv (s * 10000) (a + s) ≤ cdiv (s * 10000) (a - w + s)
  x01 : cdiv (s * 10000) (a + s) - s * 10000 / (a + s) = 0 ∨ cdiv (s * 10000) (a + s) - s * 10000 / (a + s) = 1
  top : cdiv (s * 10000) (a - w + s) ≤ 10000
  iff : w = 0 ↔ b ≤ s * 10000 / (a + s)

theorem boiled_is (a s b : Int) (ha : 0 ≤ a) (hs : 1 ≤ s) (hb : 1 ≤ b ∧ b ≤ 10000) : Boiled a s b (max 0 (-(s * 10000 / b - (a + s)))) := by
  have hq := fdiv_bd (s * 10000) b (by omega)
  have hqs : s ≤ s * 10000 / b := (le_div_iff _ _ _ (by omega)).2 (by rw [Int.mul_comm]; exact Int.mul_le_mul_of_nonneg_left hb.2 (by omega))
  generalize hqe : s * 10000 / b = q at *
  have e : a - max 0 (-(q - (a + s))) + s = min (a + s) q := by omega
  have e1 : a - max 0 (-(q - (a + s))) + 1 + s = min (a + s) q + 1 := by omega
  have hm0 : 0 < min (a + s) q := by omega
  have hq0 : b * min (a + s) q ≤ s * 10000 := Int.le_trans (Int.mul_le_mul_of_nonneg_left (by omega) (by omega)) hq.1
  have hmm : min (a + s) q ≤ a + s := by omega
  have l0 : 0 ≤ s * 10000 / (a + s) := Int.ediv_nonneg (by omega) (by omega)
  have l1 := fdiv_bd (s * 10000) (a + s) (by omega)
  have c1 := cdiv_bd (s * 10000) (min (a + s) q) hm0
  have c0 : 0 ≤ cdiv (s * 10000) (min (a + s) q) := by
    rcases Int.lt_or_le (cdiv (s * 10000) (min (a + s) q)) 0 with h | h
    · have := Int.mul_le_mul_of_nonneg_left (show cdiv (s * 10000) (min (a + s) q) ≤ 0 by omega) (show 0 ≤ min (a + s) q by omega)
      omega
    · exact h
  refine ⟨by omega, by omega, by rw [e]; exact hq0, ?_, l0, ?_, ?_, ?_, ?_, ?_, ?_⟩
  · intro hw
    rw [e1, show min (a + s) q = q by omega, Int.mul_add, Int.mul_one]
    exact hq.2
  · rw [e]
    exact (le_div_iff _ _ _ hm0).2 (by rw [Int.mul_comm]; exact hq0)
  · rw [e]
    refine (le_div_iff _ _ _ hm0).2 (Int.le_trans ?_ l1.1)
    exact Int.mul_le_mul_of_nonneg_right hmm l0
  · rw [e]
    refine (cdiv_le_iff _ _ _ (by omega)).2 (Int.le_trans c1.1 ?_)
    exact Int.mul_le_mul_of_nonneg_right hmm c0
  · have c2 := cdiv_bd (s * 10000) (a + s) (by omega)
    have d1 : (a + s) * (cdiv (s * 10000) (a + s) - s * 10000 / (a + s)) ≥ 0 := by rw [Int.mul_sub]; omega
    have d2 : (a + s) * (cdiv (s * 10000) (a + s) - s * 10000 / (a + s)) < (a + s) * 2 := by rw [Int.mul_sub]; omega
    have d3 := Int.lt_of_mul_lt_mul_left d2 (by omega)
    have d4 : 0 ≤ cdiv (s * 10000) (a + s) - s * 10000 / (a + s) := by
      rcases Int.lt_or_le (cdiv (s * 10000) (a + s) - s * 10000 / (a + s)) 0 with h | h
      · have := Int.mul_lt_mul_of_pos_left h (show 0 < a + s by omega)
        omega
      · exact h
    omega
  · rw [e]
    exact (cdiv_le_iff _ _ _ hm0).2 (by
      have := Int.mul_le_mul_of_nonneg_right (show s ≤ min (a + s) q by omega) (show (0 : Int) ≤ 10000 by omega)
      exact this)
  · rw [le_div_iff _ _ _ (by omega)]
    constructor
    · intro h
      have : a + s ≤ q := by omega
      rw [Int.mul_comm]
      exact Int.le_trans (Int.mul_le_mul_of_nonneg_left this (by omega)) hq.1
    · intro h
      rw [Int.mul_comm] at h
      have : a + s ≤ q := by rw [← hqe]; exact (le_div_iff _ _ _ (by omega)).2 h
      omega

/-- what Thin returns -/
theorem thinned_is (a s b : Int) (ha : 0 ≤ a) (hs : 1 ≤ s) (hb : 1 ≤ b ∧ b ≤ 10000) : b * (a + s + (s * 10000 / b - (a + s))) ≤ s * 10000 ∧ s * 10000 < b * (a + s + (s * 10000 / b - (a + s)) + 1) := by
  have hq := fdiv_bd (s * 10000) b (by omega)
  generalize s * 10000 / b = q at *
  rw [show a + s + (q - (a + s)) = q by omega, Int.mul_add, Int.mul_one]
  exact ⟨hq.1, hq.2⟩

end Go.Proofs.Ytfohdafijfjefaa
