/- Integer arithmetic: quotients rounded down and up. -/
import Derived.Test.YtfohdafijfjefaaSpanMath
set_option linter.unusedSimpArgs false
set_option linter.unusedVariables false
namespace Go.Proofs.Ytfohdafijfjefaa

theorem cdiv_le_iff (x c k : Int) (hc : 0 < c) : cdiv x c ≤ k ↔ x ≤ c * k := by
  unfold cdiv
  have h := Int.le_ediv_iff_mul_le (a := -k) (b := -x) hc
  constructor
  · intro h1
    have := h.1 (by omega)
    rw [Int.neg_mul, Int.mul_comm] at this
    omega
  · intro h1
    have := h.2 (by rw [Int.neg_mul, Int.mul_comm]; omega)
    omega

theorem le_div_iff (x c k : Int) (hc : 0 < c) : k ≤ x / c ↔ c * k ≤ x := by
  rw [Int.le_ediv_iff_mul_le hc, Int.mul_comm]

theorem div_bound (z c Z : Int) (hc : 1 ≤ c) (h : -Z ≤ z ∧ z ≤ Z) : -Z ≤ z / c ∧ z / c ≤ Z ∧ -Z ≤ cdiv z c ∧ cdiv z c ≤ Z := by
  have hZ : 0 ≤ Z := by omega
  have key : ∀ y : Int, -Z ≤ y → y ≤ Z → -Z ≤ y / c ∧ y / c ≤ Z := by
    intro y h1 h2
    constructor
    · rw [le_div_iff _ _ _ (by omega)]
      have := Int.mul_le_mul_of_nonneg_right hc hZ
      rw [Int.mul_neg]; omega
    · rcases Int.lt_or_le Z (y / c) with h3 | h3
      · have h4 := (le_div_iff y c (Z + 1) (by omega)).1 (by omega)
        have := Int.mul_le_mul_of_nonneg_right hc (show 0 ≤ Z + 1 by omega)
        omega
      · exact h3
  have k1 := key z h.1 h.2
  have k2 := key (-z) (by omega) (by omega)
  unfold cdiv
  omega

end Go.Proofs.Ytfohdafijfjefaa
