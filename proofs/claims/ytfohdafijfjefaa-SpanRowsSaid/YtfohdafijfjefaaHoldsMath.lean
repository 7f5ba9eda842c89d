/- The arithmetic of SpanHolds: no program is walked here. -/
import Derived.Test.YtfohdafijfjefaaRefSums2
import Derived.Test.YtfohdafijfjefaaScaleMath
import Derived.Test.YtfohdafijfjefaaIntMath
set_option linter.unusedSimpArgs false
set_option linter.unusedVariables false
namespace Go.Proofs.Ytfohdafijfjefaa

/-- the ranges' ends and the numbers that are picked -/
structure Small (x0 x1 y0 y1 m n : Int) : Prop where
  b0 : -11000000 ≤ x0
  b1 : x1 ≤ 11000000
  b2 : -11000000 ≤ y0
  b3 : y1 ≤ 11000000
  m0 : x0 ≤ m
  m1 : m ≤ x1
  n0 : y0 ≤ n
  n1 : n ≤ y1

theorem madeS_ok (l h : Int) (h0 : -1000000000000000 ≤ l) (h1 : l ≤ h) (h2 : h ≤ 1000000000000000) : madeS l h = (⟨l, h⟩, 0) := by
  unfold madeS
  rw [if_pos ((okR_iff ⟨l, h⟩).2 ⟨h0, h1, h2⟩)]

theorem okR_of (l h : Int) (h0 : -1000000000000000 ≤ l) (h1 : l ≤ h) (h2 : h ≤ 1000000000000000) : okR ⟨l, h⟩ = true := (okR_iff ⟨l, h⟩).2 ⟨h0, h1, h2⟩

section
variable {x0 x1 y0 y1 m n : Int} (S : Small x0 x1 y0 y1 m n)
include S

theorem Small.okx : okR ⟨x0, x1⟩ = true := by have := S.b0; have := S.b1; have := S.m0; have := S.m1; exact okR_of _ _ (by omega) (by omega) (by omega)
theorem Small.oky : okR ⟨y0, y1⟩ = true := by have := S.b2; have := S.b3; have := S.n0; have := S.n1; exact okR_of _ _ (by omega) (by omega) (by omega)

theorem Small.check : checkS [⟨x0, x1⟩, ⟨y0, y1⟩] = 0 := by
  unfold checkS
  rw [if_neg (by simp), if_pos (by simp [S.okx, S.oky])]

theorem Small.sum : sumS [⟨x0, x1⟩, ⟨y0, y1⟩] = (⟨x0 + y0, x1 + y1⟩, 0) := by
  unfold sumS
  rw [if_pos S.check]
  obtain ⟨b0, b1, b2, b3, m0, m1, n0, n1⟩ := S
  show madeS (0 + x0 + y0) (0 + x1 + y1) = _
  rw [Int.zero_add, Int.zero_add]
  exact madeS_ok _ _ (by omega) (by omega) (by omega)

theorem Small.less : lessS ⟨x0, x1⟩ ⟨y0, y1⟩ = (⟨x0 - y1, x1 - y0⟩, 0) := by
  unfold lessS
  rw [if_neg (by rw [S.okx, S.oky]; simp)]
  obtain ⟨b0, b1, b2, b3, m0, m1, n0, n1⟩ := S
  show madeS (x0 - y1) (x1 - y0) = _
  exact madeS_ok _ _ (by omega) (by omega) (by omega)

theorem Small.hull : foldS HullJ [⟨x0, x1⟩, ⟨y0, y1⟩] = (⟨min x0 y0, max x1 y1⟩, 0) := by
  rw [foldS_cons _ _ _ S.check]
  obtain ⟨b0, b1, b2, b3, m0, m1, n0, n1⟩ := S
  show (if max x1 y1 < min x0 y0 then _ else ((⟨min x0 y0, max x1 y1⟩ : R), (0 : Int))) = _
  rw [if_neg (by omega)]

theorem Small.meet : foldS MeetJ [⟨min x0 y0, max x1 y1⟩, ⟨x0, x1⟩] = (⟨x0, x1⟩, 0) := by
  obtain ⟨b0, b1, b2, b3, m0, m1, n0, n1⟩ := S
  have S' : Small (min x0 y0) (max x1 y1) x0 x1 m m := ⟨by omega, by omega, by omega, by omega, by omega, by omega, by omega, by omega⟩
  rw [foldS_cons _ _ _ S'.check]
  show (if min (max x1 y1) x1 < max (min x0 y0) x0 then _ else ((⟨max (min x0 y0) x0, min (max x1 y1) x1⟩ : R), (0 : Int))) = _
  rw [show max (min x0 y0) x0 = x0 by omega, show min (max x1 y1) x1 = x1 by omega, if_neg (by omega)]

/-- m in place of the least one -/
theorem Small.rest : Small m x1 y0 y1 m n := by
  obtain ⟨b0, b1, b2, b3, m0, m1, n0, n1⟩ := S
  exact ⟨by omega, b1, b2, b3, by omega, m1, n0, n1⟩
end

theorem mul_btw (a b m n : Int) (h0 : a ≤ m) (h1 : m ≤ b) : min (a * n) (b * n) ≤ m * n ∧ m * n ≤ max (a * n) (b * n) := by
  rcases Int.lt_or_le n 0 with h | h
  · have e1 := Int.mul_le_mul_of_nonpos_right h0 (show n ≤ 0 by omega)
    have e2 := Int.mul_le_mul_of_nonpos_right h1 (show n ≤ 0 by omega)
    omega
  · have e1 := Int.mul_le_mul_of_nonneg_right h0 h
    have e2 := Int.mul_le_mul_of_nonneg_right h1 h
    omega

def pl (x0 x1 y0 y1 : Int) : Int := min (min (min (x0 * y0) (x0 * y1)) (x1 * y0)) (x1 * y1)
def ph (x0 x1 y0 y1 : Int) : Int := max (max (max (x0 * y0) (x0 * y1)) (x1 * y0)) (x1 * y1)

theorem prod_btw (x0 x1 y0 y1 m n : Int) (h0 : x0 ≤ m) (h1 : m ≤ x1) (h2 : y0 ≤ n) (h3 : n ≤ y1) : pl x0 x1 y0 y1 ≤ m * n ∧ m * n ≤ ph x0 x1 y0 y1 := by
  have k0 := mul_btw x0 x1 m n h0 h1
  have k1 := mul_btw y0 y1 n x0 h2 h3
  have k2 := mul_btw y0 y1 n x1 h2 h3
  rw [Int.mul_comm y0 x0, Int.mul_comm y1 x0, Int.mul_comm n x0] at k1
  rw [Int.mul_comm y0 x1, Int.mul_comm y1 x1, Int.mul_comm n x1] at k2
  unfold pl ph
  omega

theorem mul_small (a b : Int) (ha : -11000000 ≤ a ∧ a ≤ 11000000) (hb : -11000000 ≤ b ∧ b ≤ 11000000) : -121000000000000 ≤ a * b ∧ a * b ≤ 121000000000000 := by
  have h : (a * b).natAbs ≤ 11000000 * 11000000 := by
    rw [Int.natAbs_mul]
    exact Nat.mul_le_mul (by omega) (by omega)
  omega

section
variable {x0 x1 y0 y1 m n : Int} (S : Small x0 x1 y0 y1 m n)
include S

theorem Small.bounds : (-11000000 ≤ x0 ∧ x0 ≤ 11000000) ∧ (-11000000 ≤ x1 ∧ x1 ≤ 11000000) ∧ (-11000000 ≤ y0 ∧ y0 ≤ 11000000) ∧ (-11000000 ≤ y1 ∧ y1 ≤ 11000000) ∧ (-11000000 ≤ m ∧ m ≤ 11000000) ∧ (-11000000 ≤ n ∧ n ≤ 11000000) := by
  obtain ⟨b0, b1, b2, b3, m0, m1, n0, n1⟩ := S
  omega

theorem Small.plph : -121000000000000 ≤ pl x0 x1 y0 y1 ∧ ph x0 x1 y0 y1 ≤ 121000000000000 ∧ pl x0 x1 y0 y1 ≤ ph x0 x1 y0 y1 := by
  obtain ⟨a, b, c, d, e, f⟩ := S.bounds
  have k1 := mul_small _ _ a c
  have k2 := mul_small _ _ a d
  have k3 := mul_small _ _ b c
  have k4 := mul_small _ _ b d
  unfold pl ph
  omega

theorem Small.times : timesS ⟨x0, x1⟩ ⟨y0, y1⟩ = (⟨pl x0 x1 y0 y1, ph x0 x1 y0 y1⟩, 0) := by
  unfold timesS
  rw [if_neg (by rw [S.okx, S.oky]; simp), over4 _ _ _ _ (by simp) (by simp) (by simp) (by simp)]
  simp only [(q_one _ _).1, (q_one _ _).2]
  have k := S.plph
  exact madeS_ok _ _ (by show _ ≤ pl x0 x1 y0 y1; omega) (by show pl x0 x1 y0 y1 ≤ ph x0 x1 y0 y1; omega) (by show ph x0 x1 y0 y1 ≤ _; omega)
end

def kl (x0 x1 n d : Int) : Int := min (x0 * n / d) (x1 * n / d)
def kh (x0 x1 n d : Int) : Int := max (cdiv (x0 * n) d) (cdiv (x1 * n) d)

theorem div_mono (a b c : Int) (hc : 0 < c) (h : a ≤ b) : a / c ≤ b / c := Int.ediv_le_ediv hc h
theorem cdiv_mono (a b c : Int) (hc : 0 < c) (h : a ≤ b) : cdiv a c ≤ cdiv b c := by
  unfold cdiv
  have := Int.ediv_le_ediv (a := -b) (b := -a) hc (by omega)
  omega
theorem div_le_cdiv (a c : Int) (hc : 0 < c) : a / c ≤ cdiv a c := by
  have f := fdiv_bd a c hc
  have g := cdiv_bd a c hc
  rcases Int.lt_or_le (cdiv a c) (a / c) with h | h
  · have := Int.mul_lt_mul_of_pos_left h hc
    omega
  · exact h

section
variable {x0 x1 y0 y1 m n : Int} (S : Small x0 x1 y0 y1 m n) (d : Int) (hd : 1 ≤ d ∧ d ≤ 1000)
include S hd

theorem Small.klm : kl x0 x1 n d ≤ m * n / d ∧ cdiv (m * n) d ≤ kh x0 x1 n d := by
  have k := mul_btw x0 x1 m n S.m0 S.m1
  unfold kl kh
  have d1 := div_mono (min (x0 * n) (x1 * n)) (m * n) d (by omega) k.1
  have d2 := cdiv_mono (m * n) (max (x0 * n) (x1 * n)) d (by omega) k.2
  constructor
  · rcases Int.le_total (x0 * n) (x1 * n) with h | h
    · rw [show min (x0 * n) (x1 * n) = x0 * n by omega] at d1; omega
    · rw [show min (x0 * n) (x1 * n) = x1 * n by omega] at d1; omega
  · rcases Int.le_total (x0 * n) (x1 * n) with h | h
    · rw [show max (x0 * n) (x1 * n) = x1 * n by omega] at d2; omega
    · rw [show max (x0 * n) (x1 * n) = x0 * n by omega] at d2; omega

theorem Small.klkh : -121000000000000 ≤ kl x0 x1 n d ∧ kh x0 x1 n d ≤ 121000000000000 ∧ kl x0 x1 n d ≤ kh x0 x1 n d := by
  obtain ⟨a, b, _, _, _, f⟩ := S.bounds
  have k1 := div_bound (x0 * n) d 121000000000000 (by omega) (mul_small _ _ a f)
  have k2 := div_bound (x1 * n) d 121000000000000 (by omega) (mul_small _ _ b f)
  have k3 := S.klm d hd
  have k4 := div_le_cdiv (m * n) d (by omega)
  unfold kl kh at *
  omega

theorem Small.scale : scaleS ⟨x0, x1⟩ n d = (⟨kl x0 x1 n d, kh x0 x1 n d⟩, 0) := by
  have hn := S.bounds.2.2.2.2.2
  have k := S.klkh d hd
  unfold scaleS
  rw [if_neg (by rw [S.okx]; decide), if_neg ?_, over2 _ _ (by show d ≠ 0; omega) (by show d ≠ 0; omega)]
  · unfold Q3.lo Q3.hi
    simp only
    rw [if_neg (by omega), if_neg (by omega), if_neg (by omega), if_neg (by omega)]
    exact madeS_ok _ _ (by show _ ≤ kl x0 x1 n d; omega) (by show kl x0 x1 n d ≤ kh x0 x1 n d; omega) (by show kh x0 x1 n d ≤ _; omega)
  · rintro (h | h)
    · rw [(btw1 _ _ _).2 (by omega)] at h; simp at h
    · rw [(btw1 _ _ _).2 (by omega)] at h; simp at h

theorem Small.kmul : kl x0 x1 n d * d ≤ m * n ∧ m * n ≤ kh x0 x1 n d * d := by
  have k := S.klm d hd
  have f := (le_div_iff (m * n) d (kl x0 x1 n d) (by omega)).1 k.1
  have g := (cdiv_le_iff (m * n) d (kh x0 x1 n d) (by omega)).1 k.2
  rw [Int.mul_comm d] at f g
  exact ⟨f, g⟩

theorem Small.kbd : -130000000000000 ≤ kl x0 x1 n d * d ∧ kh x0 x1 n d * d ≤ 130000000000000 := by
  obtain ⟨a, b, _, _, _, f⟩ := S.bounds
  have k1 := mul_small _ _ a f
  have k2 := mul_small _ _ b f
  have f1 := fdiv_bd (x0 * n) d (by omega)
  have f2 := fdiv_bd (x1 * n) d (by omega)
  have g1 := cdiv_bd (x0 * n) d (by omega)
  have g2 := cdiv_bd (x1 * n) d (by omega)
  unfold kl kh
  constructor
  · rcases Int.le_total (x0 * n / d) (x1 * n / d) with h | h
    · rw [show min (x0 * n / d) (x1 * n / d) = x0 * n / d by omega, Int.mul_comm]; omega
    · rw [show min (x0 * n / d) (x1 * n / d) = x1 * n / d by omega, Int.mul_comm]; omega
  · rcases Int.le_total (cdiv (x0 * n) d) (cdiv (x1 * n) d) with h | h
    · rw [show max (cdiv (x0 * n) d) (cdiv (x1 * n) d) = cdiv (x1 * n) d by omega, Int.mul_comm]; omega
    · rw [show max (cdiv (x0 * n) d) (cdiv (x1 * n) d) = cdiv (x0 * n) d by omega, Int.mul_comm]; omega

/-- with m in place of the least one no range is wider -/
theorem Small.narrow : (m + y0 ≥ x0 + y0 ∧ m - y1 ≥ x0 - y1) ∧ (pl x0 x1 y0 y1 ≤ pl m x1 y0 y1 ∧ ph m x1 y0 y1 ≤ ph x0 x1 y0 y1) ∧ (kl x0 x1 n d ≤ kl m x1 n d ∧ kh m x1 n d ≤ kh x0 x1 n d) := by
  have k1 := prod_btw x0 x1 y0 y1 m y0 S.m0 S.m1 (Int.le_refl _) (Int.le_trans S.n0 S.n1)
  have k2 := prod_btw x0 x1 y0 y1 m y1 S.m0 S.m1 (Int.le_trans S.n0 S.n1) (Int.le_refl _)
  have k3 := S.klm d hd
  have := S.m0
  refine ⟨by omega, ?_, ?_⟩
  · unfold pl ph at *; omega
  · unfold kl kh at *; omega
end

/-- the quotients' ends, for a divisor above 0 -/
def ql (x0 x1 y0 y1 : Int) : Int := min (min (min (qLo x0 y0) (qLo x0 y1)) (qLo x1 y0)) (qLo x1 y1)
def qh (x0 x1 y0 y1 : Int) : Int := max (max (max (qHi x0 y0) (qHi x0 y1)) (qHi x1 y0)) (qHi x1 y1)

theorem quo_pos (x0 x1 y0 y1 m n : Int) (h0 : x0 ≤ m) (h1 : m ≤ x1) (hy : 0 < y0) (h2 : y0 ≤ n) (h3 : n ≤ y1) :
    min (x0 / y0) (x0 / y1) * n ≤ m ∧ m ≤ max (cdiv x1 y0) (cdiv x1 y1) * n := by
  constructor
  · rcases Int.lt_or_le x0 0 with h | h
    · have f := fdiv_bd x0 y0 hy
      have hneg : x0 / y0 < 0 := by
        rcases Int.lt_or_le (x0 / y0) 0 with h' | h'
        · exact h'
        · have := Int.mul_nonneg (show 0 ≤ y0 by omega) h'; omega
      have e1 := Int.mul_le_mul_of_nonneg_right (show min (x0 / y0) (x0 / y1) ≤ x0 / y0 by omega) (show 0 ≤ n by omega)
      have e2 := Int.mul_le_mul_of_nonpos_left (show x0 / y0 ≤ 0 by omega) h2
      rw [Int.mul_comm (x0 / y0) y0] at e2
      omega
    · have f := fdiv_bd x0 y1 (by omega)
      have hpos : 0 ≤ x0 / y1 := Int.ediv_nonneg h (by omega)
      have e1 := Int.mul_le_mul_of_nonneg_right (show min (x0 / y0) (x0 / y1) ≤ x0 / y1 by omega) (show 0 ≤ n by omega)
      have e2 := Int.mul_le_mul_of_nonneg_left h3 hpos
      rw [Int.mul_comm (x0 / y1) y1] at e2
      omega
  · rcases Int.lt_or_le x1 0 with h | h
    · have g := cdiv_bd x1 y1 (by omega)
      have hneg : cdiv x1 y1 ≤ 0 := (cdiv_le_iff x1 y1 0 (by omega)).2 (by omega)
      have e1 := Int.mul_le_mul_of_nonneg_right (show cdiv x1 y1 ≤ max (cdiv x1 y0) (cdiv x1 y1) by omega) (show 0 ≤ n by omega)
      have e2 := Int.mul_le_mul_of_nonpos_left hneg h3
      rw [Int.mul_comm (cdiv x1 y1) y1] at e2
      omega
    · have g := cdiv_bd x1 y0 hy
      have hpos : 0 ≤ cdiv x1 y0 := by
        rcases Int.lt_or_le (cdiv x1 y0) 0 with h' | h'
        · have := Int.mul_neg_of_pos_of_neg hy h'; omega
        · exact h'
      have e1 := Int.mul_le_mul_of_nonneg_right (show cdiv x1 y0 ≤ max (cdiv x1 y0) (cdiv x1 y1) by omega) (show 0 ≤ n by omega)
      have e2 := Int.mul_le_mul_of_nonneg_left h2 hpos
      rw [Int.mul_comm (cdiv x1 y0) y0] at e2
      omega

theorem q_bd (a d : Int) (ha : -11000000 ≤ a ∧ a ≤ 11000000) (hd : d ≠ 0) : -11000000 ≤ qLo a d ∧ qLo a d ≤ qHi a d ∧ qHi a d ≤ 11000000 := by
  unfold qLo qHi
  by_cases h : d < 0
  · rw [if_pos h, if_pos h]
    have k := div_bound (-a) (-d) 11000000 (by omega) (by omega)
    have := div_le_cdiv (-a) (-d) (by omega)
    omega
  · rw [if_neg h, if_neg h]
    have k := div_bound a d 11000000 (by omega) (by omega)
    have := div_le_cdiv a d (by omega)
    omega

section
variable {x0 x1 y0 y1 m n : Int} (S : Small x0 x1 y0 y1 m n)
include S

theorem Small.over_no (h : y0 ≤ 0 ∧ 0 ≤ y1) : overS' ⟨x0, x1⟩ ⟨y0, y1⟩ = (⟨0, 0⟩, 3) := by
  unfold overS'
  rw [if_neg (by rw [S.okx, S.oky]; simp), if_pos h]

theorem Small.qlqh (h : y0 ≠ 0) (h' : y1 ≠ 0) : -11000000 ≤ ql x0 x1 y0 y1 ∧ ql x0 x1 y0 y1 ≤ qh x0 x1 y0 y1 ∧ qh x0 x1 y0 y1 ≤ 11000000 := by
  obtain ⟨a, b, _⟩ := S.bounds
  have k1 := q_bd x0 y0 a h
  have k2 := q_bd x0 y1 a h'
  have k3 := q_bd x1 y0 b h
  have k4 := q_bd x1 y1 b h'
  unfold ql qh
  omega

theorem Small.over (h : ¬ (y0 ≤ 0 ∧ 0 ≤ y1)) : overS' ⟨x0, x1⟩ ⟨y0, y1⟩ = (⟨ql x0 x1 y0 y1, qh x0 x1 y0 y1⟩, 0) := by
  have hy := Int.le_trans S.n0 S.n1
  have k := S.qlqh (by omega) (by omega)
  unfold overS'
  rw [if_neg (by rw [S.okx, S.oky]; simp), if_neg h, over4 _ _ _ _ (by simp only; omega) (by simp only; omega) (by simp only; omega) (by simp only; omega)]
  simp only [(q_mid _ _).1, (q_mid _ _).2]
  exact madeS_ok _ _ (by show _ ≤ ql x0 x1 y0 y1; omega) (by show ql x0 x1 y0 y1 ≤ qh x0 x1 y0 y1; omega) (by show qh x0 x1 y0 y1 ≤ _; omega)

theorem Small.over_pos (h : 0 < y0) : ql x0 x1 y0 y1 * n ≤ m ∧ m ≤ qh x0 x1 y0 y1 * n := by
  have hy := Int.le_trans S.n0 S.n1
  have hn := S.n0
  have k := quo_pos x0 x1 y0 y1 m n S.m0 S.m1 h S.n0 S.n1
  have e1 : ql x0 x1 y0 y1 ≤ min (x0 / y0) (x0 / y1) := by unfold ql qLo; rw [if_neg (by omega), if_neg (by omega)]; omega
  have e2 : max (cdiv x1 y0) (cdiv x1 y1) ≤ qh x0 x1 y0 y1 := by unfold qh qHi; rw [if_neg (by omega), if_neg (by omega)]; omega
  have f1 := Int.mul_le_mul_of_nonneg_right e1 (show 0 ≤ n by omega)
  have f2 := Int.mul_le_mul_of_nonneg_right e2 (show 0 ≤ n by omega)
  omega

theorem Small.over_neg (h : y1 < 0) : qh x0 x1 y0 y1 * n ≤ m ∧ m ≤ ql x0 x1 y0 y1 * n := by
  have hy := Int.le_trans S.n0 S.n1
  have hn := S.n1
  have m0 := S.m0
  have m1 := S.m1
  have n0 := S.n0
  have k := quo_pos (-x1) (-x0) (-y1) (-y0) (-m) (-n) (by omega) (by omega) (by omega) (by omega) (by omega)
  have e1 : ql x0 x1 y0 y1 ≤ min (-x1 / -y1) (-x1 / -y0) := by unfold ql qLo; rw [if_pos (by omega), if_pos (by omega), if_pos (by omega), if_pos (by omega)]; omega
  have e2 : max (cdiv (-x0) (-y1)) (cdiv (-x0) (-y0)) ≤ qh x0 x1 y0 y1 := by unfold qh qHi; rw [if_pos (by omega), if_pos (by omega), if_pos (by omega), if_pos (by omega)]; omega
  have f1 := Int.mul_le_mul_of_nonneg_right e1 (show 0 ≤ -n by omega)
  have f2 := Int.mul_le_mul_of_nonneg_right e2 (show 0 ≤ -n by omega)
  rw [Int.mul_neg] at f1 f2 k
  rw [Int.mul_neg] at f1 f2 k
  omega
end

end Go.Proofs.Ytfohdafijfjefaa
