/- Plain law: what the searches of a stretch find. No program's text is read here. -/
import Derived.Test.YtfohdafijfjefaaRefSrch
set_option linter.unusedSimpArgs false
set_option linter.unusedVariables false
namespace Go.Proofs.Ytfohdafijfjefaa
open Go.RowKit Go.Shelf

theorem valAt_left (a b : R) : valAt a b a.lo = ⟨a.hi, a.hi⟩ := by
  unfold valAt cdiv
  rw [Int.sub_self, Int.mul_zero]
  simp
theorem valAt_right (a b : R) (h : a.lo < b.lo) : valAt a b b.lo = ⟨b.hi, b.hi⟩ := by
  unfold valAt
  rw [Int.mul_ediv_cancel _ (show b.lo - a.lo ≠ 0 by omega), cdiv_is ((b.hi - a.hi) * (b.lo - a.lo)) (b.lo - a.lo) (b.hi - a.hi) (by rw [Int.mul_comm]; omega) (by rw [Int.mul_comm (b.lo - a.lo)]; omega)]
  rw [show a.hi + (b.hi - a.hi) = b.hi by omega]
theorem valS_seg {t : List R} (hok : rowsOk t t.length) {k : Nat} (hk : k + 1 < t.length) {x : Int} (h1 : (t[k]?.getD R.d).lo ≤ x) (h2 : x ≤ (t[k + 1]?.getD R.d).lo) : valS t x = valAt (t[k]?.getD R.d) (t[k + 1]?.getD R.d) x := by
  by_cases h : x < (t[k + 1]?.getD R.d).lo ∨ k + 2 = t.length
  · exact valS_eq hok ⟨hk, h1, by omega⟩
  · have hx : x = (t[k + 1]?.getD R.d).lo := by omega
    have hm := rows_mono hok
    have m1 := hm k (k + 1) (by omega) hk
    have m2 := hm (k + 1) (k + 1 + 1) (by omega) (by omega)
    rw [valS_eq hok (k := k + 1) ⟨by omega, by omega, .inl (by omega)⟩, hx, valAt_left, valAt_right _ _ m1]

theorem valAt_btw (a b : R) (x : Int) (h : a.lo < b.lo) (h1 : a.lo ≤ x) (h2 : x ≤ b.lo) (ha : -1000000000 ≤ a.hi ∧ a.hi ≤ 1000000000) (hb : -1000000000 ≤ b.hi ∧ b.hi ≤ 1000000000) :
    (-1000000000 ≤ (valAt a b x).lo ∧ (valAt a b x).lo ≤ 1000000000) ∧ (-1000000000 ≤ (valAt a b x).hi ∧ (valAt a b x).hi ≤ 1000000000) := by
  unfold valAt
  simp only
  have hc : 0 < b.lo - a.lo := by omega
  have hp : 0 ≤ x - a.lo := by omega
  have hq : x - a.lo ≤ b.lo - a.lo := by omega
  generalize b.lo - a.lo = dx at *
  generalize x - a.lo = dm at *
  obtain ⟨f1, f2⟩ := fdiv_bd ((b.hi - a.hi) * dm) dx hc
  obtain ⟨g1, g2⟩ := cdiv_bd ((b.hi - a.hi) * dm) dx hc
  generalize hP : (b.hi - a.hi) * dm = P at *
  generalize P / dx = f at *
  generalize cdiv P dx = g at *
  have key : ∀ q : Int, dx * q - dx < P → P < dx * q + dx → -1000000000 ≤ a.hi + q ∧ a.hi + q ≤ 1000000000 := by
    intro q k1 k2
    rcases Int.le_total 0 (b.hi - a.hi) with hd | hd
    · have e1 : 0 ≤ P := by rw [← hP]; exact Int.mul_nonneg hd hp
      have e2 : P ≤ dx * (b.hi - a.hi) := by rw [← hP, Int.mul_comm dx]; exact Int.mul_le_mul_of_nonneg_left hq hd
      have e3 : 0 ≤ q := by
        rcases Int.lt_or_le q 0 with hh | hh
        · have : dx * q ≤ dx * (-1) := Int.mul_le_mul_of_nonneg_left (by omega) (by omega)
          omega
        · exact hh
      have e4 : q ≤ b.hi - a.hi := by
        rcases Int.lt_or_le (b.hi - a.hi) q with hh | hh
        · have : dx * (b.hi - a.hi + 1) ≤ dx * q := Int.mul_le_mul_of_nonneg_left (by omega) (by omega)
          rw [Int.mul_add, Int.mul_one] at this
          omega
        · exact hh
      omega
    · have e1 : P ≤ 0 := by rw [← hP]; exact Int.mul_nonpos_of_nonpos_of_nonneg hd hp
      have e2 : dx * (b.hi - a.hi) ≤ P := by rw [← hP, Int.mul_comm dx]; exact Int.mul_le_mul_of_nonpos_left hd hq
      have e3 : q ≤ 0 := by
        rcases Int.lt_or_le 0 q with hh | hh
        · have : dx * 1 ≤ dx * q := Int.mul_le_mul_of_nonneg_left (by omega) (by omega)
          omega
        · exact hh
      have e4 : b.hi - a.hi ≤ q := by
        rcases Int.lt_or_le q (b.hi - a.hi) with hh | hh
        · have : dx * (q + 1) ≤ dx * (b.hi - a.hi) := Int.mul_le_mul_of_nonneg_left (by omega) (by omega)
          rw [Int.mul_add, Int.mul_one] at this
          omega
        · exact hh
      omega
  exact ⟨key f (by omega) (by omega), key g (by omega) (by omega)⟩

theorem srch_clamp (y v : R) (r b : Bool) (h1 : -1000000000 ≤ v.lo ∧ v.lo ≤ 1000000000) (h2 : -1000000000 ≤ v.hi ∧ v.hi ≤ 1000000000) : srchT (clampY y) v r b = srchT y v r b := by
  unfold srchT clampY
  cases r <;> cases b <;> simp only <;> exact decide_eq_decide.2 (by omega)

theorem le_fl (y h P c : Int) (hc : 0 < c) : y ≤ h + P / c ↔ (y - h) * c ≤ P := by
  rw [← Int.le_ediv_iff_mul_le hc]; omega
theorem cl_le (y h P c : Int) (hc : 0 < c) : h + cdiv P c ≤ y ↔ P ≤ (y - h) * c := by
  unfold cdiv
  have := Int.le_ediv_iff_mul_le hc (a := h - y) (b := -P)
  have e : (h - y) * c = -((y - h) * c) := by rw [← Int.neg_mul]; congr 1; omega
  rw [e] at this
  omega

def sF (a b y : R) : Int := if a.hi = b.hi then (if y.lo ≤ a.hi then a.lo else b.lo + 1) else min (max a.lo (a.lo + (ratioS (strLow a b y) (b.lo - a.lo) (strRise a b)).2)) (b.lo + 1)
def sL (a b y : R) : Int := if a.hi = b.hi then (if y.hi < a.hi then a.lo else b.lo + 1) else min (max a.lo (a.lo + (ratioS (strHigh a b y) (b.lo - a.lo) (strRise a b)).1 + 1)) (b.lo + 1)

theorem s_str (a b y : R) (h : a.lo < b.lo) : ((stretchS a b y).2 = decide (sF a b y ≤ sL a b y - 1)) ∧ (sF a b y ≤ sL a b y - 1 → (stretchS a b y).1 = ⟨sF a b y, sL a b y - 1⟩) := by
  unfold stretchS sF sL
  by_cases he : a.hi = b.hi
  · rw [if_pos he, if_pos he, if_pos he]
    constructor
    · simp only
      rw [Bool.eq_iff_iff, btw1, decide_eq_true_eq]
      split <;> split <;> omega
    · intro hl
      simp only
      by_cases h1 : y.lo ≤ a.hi
      · by_cases h2 : y.hi < a.hi
        · rw [if_pos h1, if_pos h2] at hl; omega
        · rw [if_pos h1, if_neg h2]; congr 1; omega
      · rw [if_neg h1] at hl; split at hl <;> omega
  · rw [if_neg he, if_neg he, if_neg he]
    unfold strOut
    simp only
    generalize (ratioS (strLow a b y) (b.lo - a.lo) (strRise a b)).2 = c
    generalize (ratioS (strHigh a b y) (b.lo - a.lo) (strRise a b)).1 = g
    constructor
    · exact decide_eq_decide.2 (by omega)
    · intro hl
      congr 1 <;> omega

theorem ratio2_le (L dx Ri m : Int) (hR : 0 < Ri) (hm : 0 ≤ m ∧ m ≤ 4000000000) : (ratioS L dx Ri).2 ≤ m ↔ L * dx ≤ Ri * m := by
  have h := (ratio_clip L dx Ri hR).2
  have h2 := cl_le m 0 (L * dx) Ri hR
  rw [Int.zero_add, Int.sub_zero, Int.mul_comm m] at h2
  rw [← h2]
  unfold clip at h
  omega
theorem ratio1_lt (H dx Ri m : Int) (hR : 0 < Ri) (hm : 0 ≤ m ∧ m ≤ 4000000000) : (ratioS H dx Ri).1 < m ↔ H * dx < Ri * m := by
  have h := (ratio_clip H dx Ri hR).1
  have h2 := le_fl m 0 (H * dx) Ri hR
  rw [Int.zero_add, Int.sub_zero, Int.mul_comm m] at h2
  unfold clip at h
  omega

theorem sF_test (a b y : R) (m : Int) (h : a.lo < b.lo) (h1 : a.lo ≤ m) (h2 : m ≤ b.lo) (hd : b.lo - a.lo ≤ 4000000000) :
    (srchT y (valAt a b m) (decide (a.hi ≤ b.hi)) false = true ↔ sF a b y ≤ m) ∧ (srchT y (valAt a b m) (decide (a.hi ≤ b.hi)) true = true ↔ sL a b y ≤ m) := by
  have hc : 0 < b.lo - a.lo := by omega
  by_cases he : a.hi = b.hi
  · have hv : valAt a b m = ⟨a.hi, a.hi⟩ := by
      unfold valAt cdiv
      rw [show b.hi - a.hi = 0 by omega, Int.zero_mul]
      simp
    rw [hv, decide_eq_true (by omega : a.hi ≤ b.hi)]
    unfold sF sL srchT
    simp only [decide_eq_true_eq]
    rw [if_pos he, if_pos he]
    constructor <;> split <;> omega
  · unfold sF sL
    rw [if_neg he, if_neg he]
    rcases Int.lt_or_le b.hi a.hi with hs | hs
    · rw [decide_eq_false (by omega : ¬ a.hi ≤ b.hi)]
      unfold srchT strLow strHigh strRise valAt
      rw [if_pos (by omega), if_pos (by omega), if_pos (by omega)]
      simp only [decide_eq_true_eq]
      have k1 := ratio2_le (-(y.hi - a.hi)) (b.lo - a.lo) (-(b.hi - a.hi)) (m - a.lo) (by omega) (by omega)
      have k2 := ratio1_lt (-(y.lo - a.hi)) (b.lo - a.lo) (-(b.hi - a.hi)) (m - a.lo) (by omega) (by omega)
      have k3 := cl_le y.hi a.hi ((b.hi - a.hi) * (m - a.lo)) (b.lo - a.lo) hc
      have k4 := le_fl y.lo a.hi ((b.hi - a.hi) * (m - a.lo)) (b.lo - a.lo) hc
      rw [Int.neg_mul, Int.neg_mul] at k1 k2
      constructor <;> omega
    · rw [decide_eq_true hs]
      unfold srchT strLow strHigh strRise valAt
      rw [if_neg (by omega), if_neg (by omega), if_neg (by omega)]
      simp only [decide_eq_true_eq]
      have k1 := ratio2_le (y.lo - a.hi) (b.lo - a.lo) (b.hi - a.hi) (m - a.lo) (by omega) (by omega)
      have k2 := ratio1_lt (y.hi - a.hi) (b.lo - a.lo) (b.hi - a.hi) (m - a.lo) (by omega) (by omega)
      have k3 := cl_le y.hi a.hi ((b.hi - a.hi) * (m - a.lo)) (b.lo - a.lo) hc
      have k4 := le_fl y.lo a.hi ((b.hi - a.hi) * (m - a.lo)) (b.lo - a.lo) hc
      constructor <;> omega

theorem sF_btw (a b y : R) (h : a.lo < b.lo) : (a.lo ≤ sF a b y ∧ sF a b y ≤ b.lo + 1) ∧ (a.lo ≤ sL a b y ∧ sL a b y ≤ b.lo + 1) := by
  unfold sF sL
  constructor <;> split
  · split <;> omega
  · omega
  · split <;> omega
  · omega

end Go.Proofs.Ytfohdafijfjefaa
