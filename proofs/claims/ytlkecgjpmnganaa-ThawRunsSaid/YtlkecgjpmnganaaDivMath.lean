/- The arithmetic under math/bits.Div64 (Knuth's algorithm D in base 2^32): no program in sight. -/
import Derived.Test.YtlkecgjpmnganaaLib
import Derived.Lib.BitFns
import Derived.Lib.ItoaNum
set_option linter.unusedSimpArgs false
set_option linter.unusedVariables false
namespace Go.Proofs.Ytlkecgjpmnganaa.DivM

/-- the true digit -/
theorem digit_lt (U u1 y : Nat) (hU : U < y) (hu : u1 < 4294967296) : (U * 4294967296 + u1) / y < 4294967296 := by
  rw [Nat.div_lt_iff_lt_mul (by omega)]
  omega

/-- the loop's state: q is at least the true digit; rhat is what is left of U -/
structure St (U u1 y1 y0 q r : Nat) : Prop where
  rem : q * y1 + r = U
  ge : (U * 4294967296 + u1) / (y1 * 4294967296 + y0) ≤ q

theorem start (U u1 y1 y0 : Nat) (hy1 : 0 < y1) (hu : u1 < 4294967296) : St U u1 y1 y0 (U / y1) (U - (U / y1) * y1) := by
  constructor
  · have := Nat.div_mul_le_self U y1; omega
  · apply Nat.le_of_lt_succ
    rw [Nat.div_lt_iff_lt_mul (by omega)]
    have h1 : U < (U / y1 + 1) * y1 := by rw [Nat.mul_comm]; exact Nat.lt_mul_div_succ U hy1
    have h2 : U * 4294967296 + u1 < (U / y1 + 1) * y1 * 4294967296 := by omega
    have h3 : (U / y1).succ * (y1 * 4294967296 + y0) = (U / y1 + 1) * y1 * 4294967296 + (U / y1 + 1) * y0 := by rw [Nat.succ_eq_add_one, Nat.mul_add, Nat.mul_assoc]
    omega

/-- the test says: too great -/
theorem too_great {U u1 y1 y0 q r : Nat} (h : St U u1 y1 y0 q r) (hy : 0 < y1) (ht : 4294967296 * r + u1 < q * y0) : (U * 4294967296 + u1) / (y1 * 4294967296 + y0) < q := by
  rw [Nat.div_lt_iff_lt_mul (by omega), Nat.mul_add, ← Nat.mul_assoc]
  have := h.rem
  have e : q * y1 * 4294967296 + r * 4294967296 = U * 4294967296 := by rw [← Nat.add_mul, this]
  omega

theorem just {U u1 y1 y0 q r : Nat} (h : St U u1 y1 y0 q r) (hy : 0 < y1) (ht : q * y0 ≤ 4294967296 * r + u1) : q = (U * 4294967296 + u1) / (y1 * 4294967296 + y0) := by
  refine Nat.le_antisymm ?_ h.ge
  rw [Nat.le_div_iff_mul_le (by omega), Nat.mul_add, ← Nat.mul_assoc]
  have := h.rem
  have e : q * y1 * 4294967296 + r * 4294967296 = U * 4294967296 := by rw [← Nat.add_mul, this]
  omega

theorem down {U u1 y1 y0 q r : Nat} (h : St U u1 y1 y0 q r) (hq : (U * 4294967296 + u1) / (y1 * 4294967296 + y0) < q) : St U u1 y1 y0 (q - 1) (r + y1) := by
  have hq0 : 0 < q := Nat.lt_of_le_of_lt (Nat.zero_le _) hq
  constructor
  · have := h.rem
    have e : (q - 1) * y1 + y1 = q * y1 := by
      have : q = (q - 1) + 1 := by omega
      rw [this, Nat.add_mul, Nat.one_mul]; simp
    omega
  · omega

/-- the first guess is at most two too great -/
theorem guess_le (U y1 y0 : Nat) (hU : U < y1 * 4294967296 + y0) (hy1 : 2147483648 ≤ y1) (hy0 : y0 < 4294967296) : U / y1 ≤ 4294967297 := by
  apply Nat.le_of_lt_succ
  rw [Nat.div_lt_iff_lt_mul (by omega)]
  omega

/-- behind one step down with rhat beyond a half word: done -/
theorem done_break {U u1 y1 y0 q r : Nat} (h : St U u1 y1 y0 q r) (hy : 0 < y1) (hy0 : y0 < 4294967296) (hq : q ≤ 4294967296) (hr : 4294967296 ≤ r) : q = (U * 4294967296 + u1) / (y1 * 4294967296 + y0) := by
  refine just h hy ?_
  have h1 := Nat.mul_le_mul_right y0 hq
  omega

/-- two digits together -/
theorem two_digits (U u1 u0 y : Nat) (hy : 0 < y) :
    (U * 18446744073709551616 + (u1 * 4294967296 + u0)) / y = (U * 4294967296 + u1) / y * 4294967296 + ((U * 4294967296 + u1) % y * 4294967296 + u0) / y
    ∧ (U * 18446744073709551616 + (u1 * 4294967296 + u0)) % y = ((U * 4294967296 + u1) % y * 4294967296 + u0) % y := by
  have hm := Nat.div_add_mod (U * 4294967296 + u1) y
  have e : U * 18446744073709551616 + (u1 * 4294967296 + u0) = ((U * 4294967296 + u1) % y * 4294967296 + u0) + y * ((U * 4294967296 + u1) / y * 4294967296) := by
    generalize (U * 4294967296 + u1) / y = q at hm ⊢
    generalize (U * 4294967296 + u1) % y = r at hm ⊢
    rw [← Nat.mul_assoc]
    generalize y * q = t at hm ⊢
    omega
  constructor
  · rw [e, Nat.add_mul_div_left _ _ hy]; omega
  · rw [e, Nat.add_mul_mod_self_left]

/-- shifting both -/
theorem shifted (n y k : Nat) (hk : 0 < k) : n * k / (y * k) = n / y ∧ n * k % (y * k) / k = n % y := by
  constructor
  · exact Nat.mul_div_mul_right _ _ hk
  · rw [Nat.mul_mod_mul_right, Nat.mul_div_cancel _ hk]

/-- the number's two words, shifted -/
theorem words (hi lo s : Nat) (hs : s ≤ 64) :
    (hi * 2 ^ s + lo / 2 ^ (64 - s)) * 18446744073709551616 + lo * 2 ^ s % 18446744073709551616 = (hi * 18446744073709551616 + lo) * 2 ^ s := by
  have e : (2 : Nat) ^ (64 - s) * 2 ^ s = 18446744073709551616 := by rw [← Nat.pow_add]; rw [show 64 - s + s = 64 by omega]
  have h1 : lo * 2 ^ s / 18446744073709551616 = lo / 2 ^ (64 - s) := by
    rw [← e]; exact Nat.mul_div_mul_right _ _ (Nat.two_pow_pos s)
  have h2 := Nat.div_add_mod (lo * 2 ^ s) 18446744073709551616
  rw [h1] at h2
  rw [Nat.add_mul (hi * 2 ^ s), Nat.add_mul (hi * _), Nat.mul_right_comm hi]
  omega

theorem norm (y : Nat) (h0 : y ≠ 0) (h : y < 18446744073709551616) : Lib.bitLen y ≤ 64 ∧ 1 ≤ Lib.bitLen y ∧ 9223372036854775808 ≤ y * 2 ^ (64 - Lib.bitLen y) ∧ y * 2 ^ (64 - Lib.bitLen y) < 18446744073709551616 := by
  have hb := Lib.bitLenAux_bounds 64 y h h0
  have hl := Lib.bitLen_le y 64 (Nat.le_refl _) h
  have e : Lib.bitLen y = Lib.bitLenAux 64 y := rfl
  rw [← e] at hb
  obtain ⟨h1, h2, h3⟩ := hb
  refine ⟨hl, h1, ?_, ?_⟩
  · have : 2 ^ (Lib.bitLen y - 1) * 2 ^ (64 - Lib.bitLen y) = 9223372036854775808 := by
      rw [← Nat.pow_add, show Lib.bitLen y - 1 + (64 - Lib.bitLen y) = 63 by omega]
    rw [← this]; exact Nat.mul_le_mul_right _ h2
  · have : 2 ^ Lib.bitLen y * 2 ^ (64 - Lib.bitLen y) = 18446744073709551616 := by
      rw [← Nat.pow_add, show Lib.bitLen y + (64 - Lib.bitLen y) = 64 by omega]
    rw [← this]; exact Nat.mul_lt_mul_of_pos_right h3 (Nat.two_pow_pos _)

theorem big (P C K : Nat) (hC : 0 < C) (h : ¬ P / K < C) : K ≤ P / C := by
  rw [Nat.le_div_iff_mul_le hC]
  have h1 : C * K ≤ P / K * K := Nat.mul_le_mul_right K (Nat.le_of_not_lt h)
  have h2 := Nat.div_mul_le_self P K
  rw [Nat.mul_comm]
  exact Nat.le_trans h1 h2

end Go.Proofs.Ytlkecgjpmnganaa.DivM
