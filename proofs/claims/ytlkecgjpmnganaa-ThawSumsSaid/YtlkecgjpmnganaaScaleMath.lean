/- Plain laws: the program's and the reference's products and quotients of ranges are one. -/
import Derived.Test.YtlkecgjpmnganaaSpanMath
set_option linter.unusedSimpArgs false
set_option linter.unusedVariables false
namespace Go.Proofs.Ytlkecgjpmnganaa
open Go.RowKit Go.Shelf

def great : Int := 4000000000000000
/-- the reference's x * num / den -/
def scaledS (x num den : Int) : Int × Int :=
  if num ≠ 0 ∧ 4000000000000000 / (num.natAbs : Int) < ((x / den).natAbs : Int) then
    (if (decide (0 < x / den) == decide (0 < num)) = true then (4000000000000000, 4000000000000000) else (-4000000000000000, -4000000000000000))
  else (x / den * num + (x - den * (x / den)) * num / den, x / den * num + cdiv ((x - den * (x / den)) * num) den)

theorem natAbs_mul_le (q n : Int) (B : Int) (h : n ≠ 0) (h1 : ¬ B / (n.natAbs : Int) < (q.natAbs : Int)) : -B ≤ q * n ∧ q * n ≤ B := by
  have hn : (0 : Int) < (n.natAbs : Int) := by omega
  have h2 : (q.natAbs : Int) * (n.natAbs : Int) ≤ B := by
    have := (Int.le_ediv_iff_mul_le (a := (q.natAbs : Int)) (b := B) hn).1 (by omega)
    exact this
  have h3 : ((q * n).natAbs : Int) = (q.natAbs : Int) * (n.natAbs : Int) := by rw [Int.natAbs_mul, Int.natCast_mul]
  omega

theorem natAbs_mul_gt (q n : Int) (B : Int) (h : n ≠ 0) (h1 : B / (n.natAbs : Int) < (q.natAbs : Int)) : B < ((q * n).natAbs : Int) := by
  have hn : (0 : Int) < (n.natAbs : Int) := by omega
  have h2 : B < (q.natAbs : Int) * (n.natAbs : Int) := by
    have := (Int.ediv_lt_iff_lt_mul (a := B) (b := (q.natAbs : Int)) hn).1 h1
    exact this
  rw [Int.natAbs_mul, Int.natCast_mul]
  exact h2

theorem mul_sign (q n : Int) (B : Int) (hB : 0 ≤ B) (h : B < ((q * n).natAbs : Int)) : ((decide (0 < q) == decide (0 < n)) = true → B < q * n) ∧ (¬ (decide (0 < q) == decide (0 < n)) = true → q * n < -B) := by
  have hq : q ≠ 0 := by rintro rfl; simp at h; omega
  have hn : n ≠ 0 := by rintro rfl; simp at h; omega
  by_cases h1 : 0 < q <;> by_cases h2 : 0 < n
  · have := Int.mul_pos h1 h2
    simp [h1, h2]; omega
  · have := Int.mul_neg_of_pos_of_neg h1 (show n < 0 by omega)
    simp [h1, h2]; omega
  · have := Int.mul_neg_of_neg_of_pos (show q < 0 by omega) h2
    simp [h1, h2]; omega
  · have := Int.mul_pos_of_neg_of_neg (show q < 0 by omega) (show n < 0 by omega)
    simp [h1, h2]; omega

theorem part_bd (r n d : Int) (hr : 0 ≤ r) (hr2 : r < d) (hn : -1000000000 ≤ n ∧ n ≤ 1000000000) : -1000000000 ≤ r * n / d ∧ r * n / d ≤ 1000000000 ∧ -1000000000 ≤ cdiv (r * n) d ∧ cdiv (r * n) d ≤ 1000000000 := by
  have hd : 0 < d := by omega
  have h1 : r * n ≤ d * 1000000000 := by
    have a1 := Int.mul_le_mul_of_nonneg_left hn.2 hr
    have a2 := Int.mul_le_mul_of_nonneg_right (show r ≤ d by omega) (show (0 : Int) ≤ 1000000000 by omega)
    omega
  have h2 : d * (-1000000000) ≤ r * n := by
    have a1 := Int.mul_le_mul_of_nonneg_left hn.1 hr
    have a2 := Int.mul_le_mul_of_nonneg_right (show r ≤ d by omega) (show (0 : Int) ≤ 1000000000 by omega)
    omega
  have b1 : r * n / d ≤ 1000000000 := by
    have := Int.ediv_le_ediv hd h1
    rwa [Int.mul_ediv_cancel_left _ (show d ≠ 0 by omega)] at this
  have b2 : -1000000000 ≤ r * n / d := by
    have := Int.ediv_le_ediv hd h2
    rwa [Int.mul_ediv_cancel_left _ (show d ≠ 0 by omega)] at this
  have c1 : -(r * n) / d ≤ 1000000000 := by
    have := Int.ediv_le_ediv (a := -(r * n)) (b := d * 1000000000) hd (by omega)
    rwa [Int.mul_ediv_cancel_left _ (show d ≠ 0 by omega)] at this
  have c2 : -1000000000 ≤ -(r * n) / d := by
    have := Int.ediv_le_ediv (a := d * (-1000000000)) (b := -(r * n)) hd (by omega)
    rwa [Int.mul_ediv_cancel_left _ (show d ≠ 0 by omega)] at this
  unfold cdiv
  omega

theorem scaled_exact (x num den : Int) (hd : 0 < den) : x * num / den = x / den * num + (x - den * (x / den)) * num / den ∧ cdiv (x * num) den = x / den * num + cdiv ((x - den * (x / den)) * num) den := by
  generalize hq : x / den = q
  have e : x * num = (x - den * q) * num + den * (q * num) := by
    rw [Int.sub_mul, Int.mul_assoc]; omega
  constructor
  · rw [e, Int.add_mul_ediv_left _ _ (show den ≠ 0 by omega)]; omega
  · unfold cdiv
    have e2 : -(x * num) = -((x - den * q) * num) + den * (-(q * num)) := by rw [e, Int.mul_neg]; omega
    rw [e2, Int.add_mul_ediv_left _ _ (show den ≠ 0 by omega)]; omega

theorem scaled_clip (x num den : Int) (hn : -1000000000 ≤ num ∧ num ≤ 1000000000) (hd : 0 < den) : clip (scaledS x num den).1 = clip (x * num / den) ∧ clip (scaledS x num den).2 = clip (cdiv (x * num) den) := by
  obtain ⟨e1, e2⟩ := scaled_exact x num den hd
  rw [e1, e2]
  unfold scaledS
  have h1 := Int.emod_nonneg x (show den ≠ 0 by omega)
  have h2 := Int.emod_lt_of_pos x hd
  have h3 := Int.mul_ediv_add_emod x den
  have hp := part_bd (x - den * (x / den)) num den (by omega) (by omega) hn
  generalize (x - den * (x / den)) * num / den = a at *
  generalize cdiv ((x - den * (x / den)) * num) den = b at *
  generalize x / den = q at *
  by_cases hg : num ≠ 0 ∧ 4000000000000000 / (num.natAbs : Int) < (q.natAbs : Int)
  · rw [if_pos hg]
    have h4 := natAbs_mul_gt q num _ hg.1 hg.2
    obtain ⟨s1, s2⟩ := mul_sign q num _ (by omega) h4
    by_cases hs : (decide (0 < q) == decide (0 < num)) = true
    · rw [if_pos hs]
      have := s1 hs
      exact ⟨clip_far _ _ (by simp only; omega), clip_far _ _ (by simp only; omega)⟩
    · rw [if_neg hs]
      have := s2 hs
      exact ⟨clip_far _ _ (by simp only; omega), clip_far _ _ (by simp only; omega)⟩
  · rw [if_neg hg]; exact ⟨rfl, rfl⟩

/-- bounds for the walk -/
theorem scaled_bd (x num den : Int) (hx : -1000000000000000 ≤ x ∧ x ≤ 1000000000000000) (hn : -1000000000 ≤ num ∧ num ≤ 1000000000) (hd : 1 ≤ den ∧ den ≤ 1000000000) :
    -1000000000000000 ≤ x / den ∧ x / den ≤ 1000000000000000 ∧ 0 ≤ x - den * (x / den) ∧ x - den * (x / den) < den ∧ -1000000000000000000 ≤ (x - den * (x / den)) * num ∧ (x - den * (x / den)) * num ≤ 1000000000000000000 ∧ -1000000000000000 ≤ den * (x / den) + den ∧ den * (x / den) ≤ 1000000000000000 := by
  have h1 := Int.emod_nonneg x (show den ≠ 0 by omega)
  have h2 := Int.emod_lt_of_pos x (show 0 < den by omega)
  have h3 := Int.mul_ediv_add_emod x den
  have b1 : x / den ≤ 1000000000000000 := by
    have := Int.ediv_le_ediv (a := x) (b := den * 1000000000000000) (c := den) (by omega) (by have := Int.mul_le_mul_of_nonneg_right hd.1 (show (0 : Int) ≤ 1000000000000000 by omega); omega)
    rwa [Int.mul_ediv_cancel_left _ (show den ≠ 0 by omega)] at this
  have b2 : -1000000000000000 ≤ x / den := by
    have := Int.ediv_le_ediv (a := den * (-1000000000000000)) (b := x) (c := den) (by omega) (by have := Int.mul_le_mul_of_nonneg_right hd.1 (show (0 : Int) ≤ 1000000000000000 by omega); omega)
    rwa [Int.mul_ediv_cancel_left _ (show den ≠ 0 by omega)] at this
  have hr1 : 0 ≤ x - den * (x / den) := by omega
  have hr2 : x - den * (x / den) < den := by omega
  have p1 : (x - den * (x / den)) * num ≤ 1000000000000000000 := by
    have a1 := Int.mul_le_mul_of_nonneg_left hn.2 hr1
    omega
  have p2 : -1000000000000000000 ≤ (x - den * (x / den)) * num := by
    have a1 := Int.mul_le_mul_of_nonneg_left hn.1 hr1
    omega
  omega

/-- the reference's product -/
def prodS (a b : Int) : Int :=
  if b ≠ 0 ∧ 4000000000000000 / (b.natAbs : Int) < (a.natAbs : Int) then (if (decide (0 < a) == decide (0 < b)) = true then 4000000000000000 else -4000000000000000) else a * b

theorem prod_clip (a b : Int) : clip (prodS a b) = clip (a * b) := by
  unfold prodS
  by_cases hg : b ≠ 0 ∧ 4000000000000000 / (b.natAbs : Int) < (a.natAbs : Int)
  · rw [if_pos hg]
    have h4 := natAbs_mul_gt a b _ hg.1 hg.2
    obtain ⟨s1, s2⟩ := mul_sign a b _ (by omega) h4
    by_cases hs : (decide (0 < a) == decide (0 < b)) = true
    · rw [if_pos hs]
      have := s1 hs
      exact clip_far _ _ (by omega)
    · rw [if_neg hs]
      have := s2 hs
      exact clip_far _ _ (by omega)
  · rw [if_neg hg]

theorem clip_top (x : Int) : clip (min 2000000000000000 x) = clip x ∧ clip (max (-2000000000000000) x) = clip x := by unfold clip; omega

/-- the quotient that a triple tells, rounded down and up, exactly -/
def Q3.lo (q : Q3) : Int := if q.c < 0 then -q.a * q.b / -q.c else q.a * q.b / q.c
def Q3.hi (q : Q3) : Int := if q.c < 0 then cdiv (-q.a * q.b) (-q.c) else cdiv (q.a * q.b) q.c

theorem rat_clip (q : Q3) (h : q.c ≠ 0) : clip q.rat.1 = clip q.lo ∧ clip q.rat.2 = clip q.hi := by
  unfold Q3.rat Q3.lo Q3.hi
  by_cases hc : q.c < 0
  · simp only [if_pos hc]; exact ratio_clip _ _ _ (by omega)
  · simp only [if_neg hc]; exact ratio_clip _ _ _ (by omega)

theorem over1 (p : Q3) (hp : p.c ≠ 0) : overS [p] = madeS p.lo p.hi := by
  obtain ⟨p1, p2⟩ := rat_clip p hp
  refine madeS_eq _ _ _ _ ?_ ?_
  · show clip (min 2000000000000000 p.rat.1) = _
    rw [(clip_top _).1, p1]
  · show clip (max (-2000000000000000) p.rat.2) = _
    rw [(clip_top _).2, p2]

theorem over2 (p q : Q3) (hp : p.c ≠ 0) (hq : q.c ≠ 0) : overS [p, q] = madeS (min p.lo q.lo) (max p.hi q.hi) := by
  obtain ⟨p1, p2⟩ := rat_clip p hp
  obtain ⟨q1, q2⟩ := rat_clip q hq
  refine madeS_eq _ _ _ _ ?_ ?_
  · show clip (min (min 2000000000000000 p.rat.1) q.rat.1) = _
    exact clip_min _ _ _ _ (by rw [(clip_top _).1, p1]) q1
  · show clip (max (max (-2000000000000000) p.rat.2) q.rat.2) = _
    exact clip_max _ _ _ _ (by rw [(clip_top _).2, p2]) q2

theorem over4 (p q r s : Q3) (hp : p.c ≠ 0) (hq : q.c ≠ 0) (hr : r.c ≠ 0) (hs : s.c ≠ 0) : overS [p, q, r, s] = madeS (min (min (min p.lo q.lo) r.lo) s.lo) (max (max (max p.hi q.hi) r.hi) s.hi) := by
  obtain ⟨p1, p2⟩ := rat_clip p hp
  obtain ⟨q1, q2⟩ := rat_clip q hq
  obtain ⟨r1, r2⟩ := rat_clip r hr
  obtain ⟨s1, s2⟩ := rat_clip s hs
  refine madeS_eq _ _ _ _ ?_ ?_
  · show clip (min (min (min (min 2000000000000000 p.rat.1) q.rat.1) r.rat.1) s.rat.1) = _
    exact clip_min _ _ _ _ (clip_min _ _ _ _ (clip_min _ _ _ _ (by rw [(clip_top _).1, p1]) q1) r1) s1
  · show clip (max (max (max (max (-2000000000000000) p.rat.2) q.rat.2) r.rat.2) s.rat.2) = _
    exact clip_max _ _ _ _ (clip_max _ _ _ _ (clip_max _ _ _ _ (by rw [(clip_top _).2, p2]) q2) r2) s2

/-- the reference's Scale -/
def refScaleS (a : R) (num den : Int) : R × Int :=
  if okR a = false then (⟨0, 0⟩, 2) else if inS' num (-1000000000) 1000000000 = false ∨ inS' den 1 1000000000 = false then (⟨0, 0⟩, 3)
  else madeS (min (scaledS a.lo num den).1 (scaledS a.hi num den).1) (max (scaledS a.lo num den).2 (scaledS a.hi num den).2)
where inS' (n l m : Int) : Bool := btw l m [n]

theorem scale_ref (a : R) (num den : Int) : refScaleS a num den = scaleS a num den := by
  unfold refScaleS scaleS refScaleS.inS'
  by_cases h1 : okR a = false
  · rw [if_pos h1, if_pos h1]
  · rw [if_neg h1, if_neg h1]
    by_cases h2 : btw (-1000000000) 1000000000 [num] = false ∨ btw 1 1000000000 [den] = false
    · rw [if_pos h2, if_pos h2]
    · rw [if_neg h2, if_neg h2]
      have h3 : btw (-1000000000) 1000000000 [num] = true := by cases h : btw (-1000000000) 1000000000 [num] with
        | true => rfl
        | false => exact absurd (.inl h) h2
      have h4 : btw 1 1000000000 [den] = true := by cases h : btw 1 1000000000 [den] with
        | true => rfl
        | false => exact absurd (.inr h) h2
      have k3 := (btw1 _ _ _).1 h3
      have k4 := (btw1 _ _ _).1 h4
      rw [over2 _ _ (by simp only; omega) (by simp only; omega)]
      obtain ⟨c1, c2⟩ := scaled_clip a.lo num den k3 (by omega)
      obtain ⟨c3, c4⟩ := scaled_clip a.hi num den k3 (by omega)
      have l1 : (⟨a.lo, num, den⟩ : Q3).lo = a.lo * num / den := by unfold Q3.lo; rw [if_neg (by simp only; omega)]
      have l2 : (⟨a.hi, num, den⟩ : Q3).lo = a.hi * num / den := by unfold Q3.lo; rw [if_neg (by simp only; omega)]
      have l3 : (⟨a.lo, num, den⟩ : Q3).hi = cdiv (a.lo * num) den := by unfold Q3.hi; rw [if_neg (by simp only; omega)]
      have l4 : (⟨a.hi, num, den⟩ : Q3).hi = cdiv (a.hi * num) den := by unfold Q3.hi; rw [if_neg (by simp only; omega)]
      rw [l1, l2, l3, l4]
      exact madeS_eq _ _ _ _ (clip_min _ _ _ _ c1 c3) (clip_max _ _ _ _ c2 c4)

/-- Times -/
def timesS (a b : R) : R × Int := if okR a = false ∨ okR b = false then (⟨0, 0⟩, 2) else overS [⟨a.lo, b.lo, 1⟩, ⟨a.lo, b.hi, 1⟩, ⟨a.hi, b.lo, 1⟩, ⟨a.hi, b.hi, 1⟩]
def refTimesS (a b : R) : R × Int :=
  if okR a = false ∨ okR b = false then (⟨0, 0⟩, 2)
  else madeS (min (prodS a.lo b.lo) (min (prodS a.lo b.hi) (min (prodS a.hi b.lo) (prodS a.hi b.hi)))) (max (prodS a.lo b.lo) (max (prodS a.lo b.hi) (max (prodS a.hi b.lo) (prodS a.hi b.hi))))

theorem min4 (a b c d : Int) : min a (min b (min c d)) = min (min (min a b) c) d := by omega
theorem max4 (a b c d : Int) : max a (max b (max c d)) = max (max (max a b) c) d := by omega

theorem q_one (a b : Int) : (⟨a, b, 1⟩ : Q3).lo = a * b ∧ (⟨a, b, 1⟩ : Q3).hi = a * b := by
  unfold Q3.lo Q3.hi cdiv
  simp

theorem times_ref (a b : R) : refTimesS a b = timesS a b := by
  unfold refTimesS timesS
  by_cases h1 : okR a = false ∨ okR b = false
  · rw [if_pos h1, if_pos h1]
  · rw [if_neg h1, if_neg h1, over4 _ _ _ _ (by simp) (by simp) (by simp) (by simp), min4, max4]
    simp only [(q_one _ _).1, (q_one _ _).2]
    exact madeS_eq _ _ _ _ (clip_min _ _ _ _ (clip_min _ _ _ _ (clip_min _ _ _ _ (prod_clip _ _) (prod_clip _ _)) (prod_clip _ _)) (prod_clip _ _)) (clip_max _ _ _ _ (clip_max _ _ _ _ (clip_max _ _ _ _ (prod_clip _ _) (prod_clip _ _)) (prod_clip _ _)) (prod_clip _ _))

/-- Over -/
def overS' (a b : R) : R × Int := if okR a = false ∨ okR b = false then (⟨0, 0⟩, 2) else if b.lo ≤ 0 ∧ 0 ≤ b.hi then (⟨0, 0⟩, 3) else overS [⟨a.lo, 1, b.lo⟩, ⟨a.lo, 1, b.hi⟩, ⟨a.hi, 1, b.lo⟩, ⟨a.hi, 1, b.hi⟩]
def qLo (n d : Int) : Int := if d < 0 then -n / -d else n / d
def qHi (n d : Int) : Int := if d < 0 then cdiv (-n) (-d) else cdiv n d
def refOverS (a b : R) : R × Int :=
  if okR a = false ∨ okR b = false then (⟨0, 0⟩, 2) else if b.lo ≤ 0 ∧ 0 ≤ b.hi then (⟨0, 0⟩, 3)
  else madeS (min (min (min (min 4000000000000000 (qLo a.lo b.lo)) (qLo a.lo b.hi)) (qLo a.hi b.lo)) (qLo a.hi b.hi)) (max (max (max (max (-4000000000000000) (qHi a.lo b.lo)) (qHi a.lo b.hi)) (qHi a.hi b.lo)) (qHi a.hi b.hi))

theorem q_mid (n d : Int) : (⟨n, 1, d⟩ : Q3).lo = qLo n d ∧ (⟨n, 1, d⟩ : Q3).hi = qHi n d := by
  unfold Q3.lo Q3.hi qLo qHi
  simp

theorem over_ref (a b : R) : refOverS a b = overS' a b := by
  unfold refOverS overS'
  by_cases h1 : okR a = false ∨ okR b = false
  · rw [if_pos h1, if_pos h1]
  · rw [if_neg h1, if_neg h1]
    by_cases h2 : b.lo ≤ 0 ∧ 0 ≤ b.hi
    · rw [if_pos h2, if_pos h2]
    · have hb : okR b = true := by cases h : okR b with
        | true => rfl
        | false => exact absurd (.inr h) h1
      have hk := (okR_iff b).1 hb
      rw [if_neg h2, if_neg h2, over4 _ _ _ _ (by simp only; omega) (by simp only; omega) (by simp only; omega) (by simp only; omega)]
      simp only [(q_mid _ _).1, (q_mid _ _).2]
      refine madeS_eq _ _ _ _ ?_ ?_
      · exact clip_min _ _ _ _ (clip_min _ _ _ _ (clip_min _ _ _ _ (by unfold clip; omega) rfl) rfl) rfl
      · exact clip_max _ _ _ _ (clip_max _ _ _ _ (clip_max _ _ _ _ (by unfold clip; omega) rfl) rfl) rfl

end Go.Proofs.Ytlkecgjpmnganaa
