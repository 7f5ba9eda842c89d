/- Plain laws: what is too great is refused whatever stands there (clip); quotients with both roundings. No program's text is read here. -/
import Derived.Test.YtlkecgjpmnganaaSpan1
set_option linter.unusedSimpArgs false
set_option linter.unusedVariables false
namespace Go.Proofs.Ytlkecgjpmnganaa
open Go.RowKit Go.Shelf

def clip (x : Int) : Int := max (-1000000000000001) (min 1000000000000001 x)

theorem madeS_eq (l h l' h' : Int) (e1 : clip l = clip l') (e2 : clip h = clip h') : madeS l h = madeS l' h' := by
  unfold clip at e1 e2
  unfold madeS
  cases h1 : okR ⟨l, h⟩ with
  | true =>
    have k := (okR_iff _).1 h1
    simp only at k
    obtain rfl : l = l' := by omega
    obtain rfl : h = h' := by omega
    rw [h1]
  | false =>
    cases h2 : okR ⟨l', h'⟩ with
    | true =>
      have k := (okR_iff _).1 h2
      simp only at k
      obtain rfl : l = l' := by omega
      obtain rfl : h = h' := by omega
      rw [h1] at h2
      cases h2
    | false => simp

theorem clip_min (a b a' b' : Int) (h1 : clip a = clip a') (h2 : clip b = clip b') : clip (min a b) = clip (min a' b') := by unfold clip at *; omega
theorem clip_max (a b a' b' : Int) (h1 : clip a = clip a') (h2 : clip b = clip b') : clip (max a b) = clip (max a' b') := by unfold clip at *; omega

theorem div_is (x c q : Int) (h1 : c * q ≤ x) (h2 : x < c * q + c) : x / c = q := by
  have hc : 0 < c := by omega
  have := (Int.ediv_emod_unique (a := x) (r := x - c * q) (q := q) hc).2 ⟨by omega, by omega, by omega⟩
  exact this.1

/-- rounded up -/
def cdiv (x c : Int) : Int := -(-x / c)
theorem cdiv_is (x c q : Int) (h1 : x ≤ c * q) (h2 : c * q - c < x) : cdiv x c = q := by
  unfold cdiv
  rw [div_is (-x) c (-q) (by rw [Int.mul_neg]; omega) (by rw [Int.mul_neg]; omega)]
  omega

theorem fdiv_bd (x c : Int) (hc : 0 < c) : c * (x / c) ≤ x ∧ x < c * (x / c) + c := by
  have h1 := Int.emod_nonneg x (show c ≠ 0 by omega)
  have h2 := Int.emod_lt_of_pos x hc
  have h3 := Int.mul_ediv_add_emod x c
  omega
theorem cdiv_bd (x c : Int) (hc : 0 < c) : x ≤ c * cdiv x c ∧ c * cdiv x c - c < x := by
  have := fdiv_bd (-x) c hc
  unfold cdiv
  rw [Int.mul_neg]
  omega

theorem clip_far (x y : Int) (h : 1000000000000001 ≤ x ∧ 1000000000000001 ≤ y ∨ x ≤ -1000000000000001 ∧ y ≤ -1000000000000001) : clip x = clip y := by unfold clip; omega

theorem mul_abs (a b : Int) : a * b = if (decide (a < 0) != decide (b < 0)) = true then -((a.natAbs * b.natAbs : Nat) : Int) else ((a.natAbs * b.natAbs : Nat) : Int) := by
  rw [Int.natCast_mul]
  by_cases ha : a < 0 <;> by_cases hb : b < 0
  · rw [if_neg (by simp [ha, hb]), show ((a.natAbs : Nat) : Int) = -a by omega, show ((b.natAbs : Nat) : Int) = -b by omega, Int.neg_mul_neg]
  · rw [if_pos (by simp [ha]; omega), show ((a.natAbs : Nat) : Int) = -a by omega, show ((b.natAbs : Nat) : Int) = b by omega, Int.neg_mul, Int.neg_neg]
  · rw [if_pos (by simp [hb]; omega), show ((a.natAbs : Nat) : Int) = a by omega, show ((b.natAbs : Nat) : Int) = -b by omega, Int.mul_neg, Int.neg_neg]
  · rw [if_neg (by simp; omega), show ((a.natAbs : Nat) : Int) = a by omega, show ((b.natAbs : Nat) : Int) = b by omega]

/-- whatever is told of a quotient, but for what is too great -/
theorem ratio_clip (a b c : Int) (hc : 0 < c) : clip (ratioS a b c).1 = clip (a * b / c) ∧ clip (ratioS a b c).2 = clip (cdiv (a * b) c) := by
  unfold ratioS
  rw [mul_abs a b]
  generalize (decide (a < 0) != decide (b < 0)) = neg
  generalize a.natAbs * b.natAbs = P
  obtain ⟨C, rfl⟩ := Int.eq_ofNat_of_zero_le (show 0 ≤ c by omega)
  rw [Int.toNat_natCast]
  have hP := Nat.div_add_mod P C
  have hR := Nat.mod_lt P (show 0 < C by omega)
  unfold ratioN
  have hPI : (C : Int) * (P / C : Nat) + (P % C : Nat) = P := by exact_mod_cast hP
  generalize hq : P / C = q at *
  generalize P % C = r at *
  have e1 : (C : Int) * (-(q : Int) - 1) = -((C : Int) * q) - C := by rw [Int.mul_sub, Int.mul_neg, Int.mul_one]
  have e2 : (C : Int) * (-(q : Int)) = -((C : Int) * q) := by rw [Int.mul_neg]
  have e3 : (C : Int) * ((q : Int) + 1) = (C : Int) * q + C := by rw [Int.mul_add, Int.mul_one]
  cases neg with
  | true =>
    simp only [if_true]
    by_cases hr : 0 < r
    · rw [div_is (-(P : Int)) C (-(q : Int) - 1) (by rw [e1]; omega) (by rw [e1]; omega), cdiv_is (-(P : Int)) C (-(q : Int)) (by rw [e2]; omega) (by rw [e2]; omega)]
      by_cases hb : q < 2000000000000000
      · rw [if_pos hb, if_pos hr]; exact ⟨rfl, rfl⟩
      · rw [if_neg hb]; exact ⟨clip_far _ _ (by simp only; omega), clip_far _ _ (by simp only; omega)⟩
    · rw [div_is (-(P : Int)) C (-(q : Int)) (by rw [e2]; omega) (by rw [e2]; omega), cdiv_is (-(P : Int)) C (-(q : Int)) (by rw [e2]; omega) (by rw [e2]; omega)]
      by_cases hb : q < 2000000000000000
      · rw [if_pos hb, if_neg hr]; exact ⟨rfl, rfl⟩
      · rw [if_neg hb]; exact ⟨clip_far _ _ (by simp only; omega), clip_far _ _ (by simp only; omega)⟩
  | false =>
    simp only [Bool.false_eq_true, if_false]
    by_cases hr : 0 < r
    · rw [div_is (P : Int) C (q : Int) (by omega) (by omega), cdiv_is (P : Int) C ((q : Int) + 1) (by rw [e3]; omega) (by rw [e3]; omega)]
      by_cases hb : q < 2000000000000000
      · rw [if_pos hb, if_pos hr]; exact ⟨rfl, rfl⟩
      · rw [if_neg hb]; exact ⟨clip_far _ _ (by simp only; omega), clip_far _ _ (by simp only; omega)⟩
    · rw [div_is (P : Int) C (q : Int) (by omega) (by omega), cdiv_is (P : Int) C (q : Int) (by omega) (by omega)]
      by_cases hb : q < 2000000000000000
      · rw [if_pos hb, if_neg hr]; exact ⟨rfl, rfl⟩
      · rw [if_neg hb]; exact ⟨clip_far _ _ (by simp only; omega), clip_far _ _ (by simp only; omega)⟩

end Go.Proofs.Ytlkecgjpmnganaa
