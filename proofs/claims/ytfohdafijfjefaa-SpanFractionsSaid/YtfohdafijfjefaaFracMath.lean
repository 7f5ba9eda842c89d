/- The arithmetic of SpanFractions: no program is walked here. -/
import Derived.Test.YtfohdafijfjefaaParts
import Derived.Test.YtfohdafijfjefaaScaleMath
import Derived.Test.YtfohdafijfjefaaIntMath
set_option linter.unusedSimpArgs false
set_option linter.unusedVariables false
namespace Go.Proofs.Ytfohdafijfjefaa

theorem dvd_of_gcd_one {a b c : Int} (h : Int.gcd a b = 1) (h2 : a ∣ c * b) : a ∣ c := by
  have h3 := Int.natAbs_dvd_natAbs.2 h2
  rw [Int.natAbs_mul] at h3
  exact Int.natAbs_dvd_natAbs.1 (Nat.Coprime.dvd_of_dvd_mul_right (show Nat.Coprime a.natAbs b.natAbs from h) h3)

theorem lowest_unique (num den : Int) (x : R) (hx : okP x = true) (h0 : den ≠ 0) (h : num * x.hi = den * x.lo) : lowestS num den = (x, 0) := by
  obtain ⟨k0, k1, k2⟩ := (okP_iff _).1 hx
  obtain ⟨n, d⟩ := x
  simp only at *
  unfold divS at k2
  have hg : Int.gcd n d = 1 := by omega
  have hdvd : d ∣ den := by
    have : d ∣ den * n := ⟨num, by rw [← h, Int.mul_comm]⟩
    exact dvd_of_gcd_one (by rw [Int.gcd_comm]; exact hg) this
  obtain ⟨k, rfl⟩ := hdvd
  have hnum : num = k * n := by
    have : d * num = d * (k * n) := by rw [Int.mul_comm d num, h, Int.mul_assoc]
    exact Int.eq_of_mul_eq_mul_left (by omega) this
  subst hnum
  have hk : k ≠ 0 := by rintro rfl; simp at h0
  have e : divS (k * n) (d * k) = (k.natAbs : Int) := by
    unfold divS
    rw [Int.mul_comm d k, Int.gcd_mul_left, hg, Nat.mul_one]
  unfold lowestS
  rw [e]
  have hsgn : (if d * k < 0 then -(k.natAbs : Int) else (k.natAbs : Int)) = k := by
    by_cases hneg : k < 0
    · rw [if_pos (Int.mul_neg_of_pos_of_neg (by omega) hneg)]; omega
    · have : 0 ≤ d * k := Int.mul_nonneg (by omega) (by omega)
      rw [if_neg (by omega)]; omega
  simp only [hsgn]
  rw [Int.mul_tdiv_cancel_left _ hk, Int.mul_tdiv_cancel _ hk, if_pos hx]

/-- the lowest terms of a fraction of small numbers -/
theorem lowest_small (num den : Int) (hn : -1000000000 ≤ num ∧ num ≤ 1000000000) (hd : -1000000000 ≤ den ∧ den ≤ 1000000000) (h0 : den ≠ 0) :
    ∃ x : R, lowestS num den = (x, 0) ∧ okP x = true ∧ num * x.hi = den * x.lo ∧ x.lo.natAbs ≤ num.natAbs ∧ x.hi.natAbs ≤ den.natAbs := by
  have hg0 : 0 < Int.gcd num den := Int.gcd_pos_of_ne_zero_right num h0
  obtain ⟨n', hn'⟩ := Int.gcd_dvd_left (a := num) (b := den)
  obtain ⟨d', hd'⟩ := Int.gcd_dvd_right (a := num) (b := den)
  have hg1 : Int.gcd n' d' = 1 := by
    have h1 : Int.gcd ((Int.gcd num den : Int) * n') ((Int.gcd num den : Int) * d') = Int.gcd num den * Int.gcd n' d' := by
      rw [Int.gcd_mul_left]; simp
    rw [← hn', ← hd'] at h1
    exact Nat.eq_of_mul_eq_mul_left hg0 (by omega)
  generalize Int.gcd num den = g at *
  have hdz : d' ≠ 0 := by rintro rfl; simp at hd'; exact h0 hd'
  have b1 : n'.natAbs ≤ num.natAbs := by
    rw [hn', Int.natAbs_mul]
    exact Nat.le_mul_of_pos_left _ (by omega)
  have b2 : d'.natAbs ≤ den.natAbs := by
    rw [hd', Int.natAbs_mul]
    exact Nat.le_mul_of_pos_left _ (by omega)
  by_cases hs : d' < 0
  · refine ⟨⟨-n', -d'⟩, ?_, ?_, ?_, ?_, ?_⟩
    rotate_left
    · rw [okP_iff]; refine ⟨by simp only; omega, by simp only; omega, ?_⟩
      show divS (-n') (-d') = 1
      unfold divS; rw [Int.gcd_neg, Int.neg_gcd]; omega
    · show num * -d' = den * -n'
      rw [Int.mul_neg, Int.mul_neg, hn', hd', Int.mul_right_comm]
    · simpa using b1
    · simpa using b2
    refine lowest_unique _ _ _ ?_ h0 ?_
    · rw [okP_iff]; refine ⟨by simp only; omega, by simp only; omega, ?_⟩
      show divS (-n') (-d') = 1
      unfold divS; rw [Int.gcd_neg, Int.neg_gcd]; omega
    · show num * -d' = den * -n'
      rw [Int.mul_neg, Int.mul_neg, hn', hd', Int.mul_right_comm]
  · have hok : okP ⟨n', d'⟩ = true := by
      rw [okP_iff]; refine ⟨by simp only; omega, by simp only; omega, ?_⟩
      show divS n' d' = 1
      unfold divS; omega
    have heq : num * d' = den * n' := by rw [hn', hd', Int.mul_right_comm]
    exact ⟨⟨n', d'⟩, lowest_unique _ _ _ hok h0 heq, hok, heq, b1, b2⟩

/-- what is returned in lowest terms, if it is -/
theorem lowest_ok (num den : Int) (h0 : den ≠ 0) (x : R) (h : lowestS num den = (x, 0)) : okP x = true ∧ num * x.hi = den * x.lo := by
  unfold lowestS at h
  simp only at h
  generalize hd : (if den < 0 then -divS num den else divS num den) = d at h
  by_cases hok : okP ⟨num.tdiv d, den.tdiv d⟩ = true
  · rw [if_pos hok] at h
    obtain ⟨rfl, -⟩ := Prod.mk.inj h
    refine ⟨hok, ?_⟩
    show num * den.tdiv d = den * num.tdiv d
    have e1 : d ∣ num := by
      rw [← hd]; unfold divS
      split
      · exact Int.neg_dvd.2 (Int.gcd_dvd_left ..)
      · exact Int.gcd_dvd_left ..
    have e2 : d ∣ den := by
      rw [← hd]; unfold divS
      split
      · exact Int.neg_dvd.2 (Int.gcd_dvd_right ..)
      · exact Int.gcd_dvd_right ..
    obtain ⟨u, hu⟩ := e1
    obtain ⟨v, hv⟩ := e2
    have hdz : d ≠ 0 := by rintro rfl; simp at hv; exact h0 hv
    have t1 : num.tdiv d = u := by rw [hu, Int.mul_tdiv_cancel_left _ hdz]
    have t2 : den.tdiv d = v := by rw [hv, Int.mul_tdiv_cancel_left _ hdz]
    rw [t1, t2, hu, hv, Int.mul_right_comm]
  · rw [if_neg hok] at h
    have := (Prod.mk.inj h).2
    omega

theorem lowest_err (num den : Int) : (lowestS num den).2 = 0 ∨ lowestS num den = (⟨0, 0⟩, 10) := by
  unfold lowestS
  simp only
  generalize (if den < 0 then -divS num den else divS num den) = d
  by_cases h : okP ⟨num.tdiv d, den.tdiv d⟩ = true
  · rw [if_pos h]; exact .inl rfl
  · rw [if_neg h]; exact .inr rfl

theorem cmp_swap (x y : Int) : cmpS x y = -cmpS y x := by unfold cmpS; omega

/-- x + y - y = x in lowest terms -/
theorem add_back (x y s : R) (hx : okP x = true) (hy : okP y = true) (h : lowestS (x.lo * y.hi + y.lo * x.hi) (x.hi * y.hi) = (s, 0)) : lowestS (s.lo * y.hi + -y.lo * s.hi) (s.hi * y.hi) = (x, 0) := by
  obtain ⟨-, kx, -⟩ := (okP_iff _).1 hx
  obtain ⟨-, ky, -⟩ := (okP_iff _).1 hy
  have hxy : x.hi * y.hi ≠ 0 := by
    have := Int.mul_pos (show 0 < x.hi by omega) (show 0 < y.hi by omega); omega
  obtain ⟨hs, he⟩ := lowest_ok _ _ hxy _ h
  obtain ⟨-, ks, -⟩ := (okP_iff _).1 hs
  refine lowest_unique _ _ _ hx ?_ ?_
  · have := Int.mul_pos (show 0 < s.hi by omega) (show 0 < y.hi by omega); omega
  · -- (s.lo*y.hi - y.lo*s.hi)*x.hi = s.hi*y.hi*x.lo
    have e1 : (s.lo * y.hi + -y.lo * s.hi) * x.hi = x.hi * y.hi * s.lo - y.lo * x.hi * s.hi := by
      rw [Int.add_mul, Int.neg_mul, Int.neg_mul, ← Int.sub_eq_add_neg]
      rw [Int.mul_right_comm y.lo s.hi x.hi, Int.mul_comm (s.lo * y.hi) x.hi, Int.mul_comm s.lo y.hi, ← Int.mul_assoc]
    rw [e1, ← he, Int.add_mul, Int.mul_right_comm x.lo y.hi s.hi]
    rw [show s.hi * y.hi * x.lo = x.lo * s.hi * y.hi from by rw [Int.mul_comm (s.hi * y.hi) x.lo, Int.mul_assoc]]
    omega

/-- what Of returns for small numbers -/
theorem of_small (n : Int) (x : R) (hx : okP x = true) (hn : -2147483648 ≤ n ∧ n ≤ 2147483647) (hl : x.lo.natAbs ≤ 32768) : 
    ofS n x = (⟨n * x.lo / x.hi, cdiv (n * x.lo) x.hi⟩, 0) := by
  obtain ⟨k0, k1, -⟩ := (okP_iff _).1 hx
  have hb : (n * x.lo).natAbs ≤ 2147483648 * 32768 := by
    rw [Int.natAbs_mul]; exact Nat.mul_le_mul (by omega) hl
  have d := div_bound (n * x.lo) x.hi 70368744177664 (by omega) (by omega)
  unfold ofS
  rw [if_neg (by rw [hx]; decide), if_neg (by rw [show btw (-1000000000000000) 1000000000000000 [n] = true from (btw1 _ _ _).2 (by omega)]; decide), over1 _ (by show x.hi ≠ 0; omega)]
  unfold Q3.lo Q3.hi
  simp only
  rw [if_neg (by omega), if_neg (by omega)]
  unfold madeS
  rw [if_pos ((okR_iff _).2 ?_)]
  have f := fdiv_bd (n * x.lo) x.hi (by omega)
  have c := cdiv_bd (n * x.lo) x.hi (by omega)
  have : n * x.lo / x.hi ≤ cdiv (n * x.lo) x.hi := by
    rw [← Int.mul_le_mul_left (show 0 < x.hi by omega)]
    omega
  simp only
  omega

theorem tmod_zero_iff (z c : Int) (hc : 0 < c) : z.tmod c = 0 ↔ c * (z / c) = z := by
  rw [← Int.dvd_iff_tmod_eq_zero, Int.dvd_iff_emod_eq_zero]
  have := Int.mul_ediv_add_emod z c
  omega

structure OfIs (z c r0 r1 : Int) : Prop where
  lo : r0 * c ≤ z
  lo2 : z - c < r0 * c
  hi : z ≤ r1 * c
  hi2 : r1 * c < z + c
  le : r0 ≤ r1
  one : r1 - r0 ≤ 1
  eq : r1 = r0 ↔ z.tmod c = 0

theorem of_is (z c : Int) (hc : 1 ≤ c) : OfIs z c (z / c) (cdiv z c) := by
  have f := fdiv_bd z c (by omega)
  have g := cdiv_bd z c (by omega)
  have e := tmod_zero_iff z c (by omega)
  generalize z / c = q at *
  generalize cdiv z c = p at *
  have m1 : c * (p - q) = c * p - c * q := Int.mul_sub _ _ _
  have l1 : q ≤ p := by
    rcases Int.lt_or_le p q with h | h
    · have := Int.mul_le_mul_of_nonneg_left (show p - q ≤ -1 by omega) (show 0 ≤ c by omega)
      rw [m1] at this
      omega
    · exact h
  have l2 : p - q ≤ 1 := by
    rcases Int.lt_or_le 1 (p - q) with h | h
    · have := Int.mul_le_mul_of_nonneg_left (show 2 ≤ p - q by omega) (show 0 ≤ c by omega)
      rw [m1] at this
      omega
    · exact h
  refine ⟨by rw [Int.mul_comm]; omega, by rw [Int.mul_comm]; omega, by rw [Int.mul_comm]; omega, by rw [Int.mul_comm]; omega, l1, l2, ?_⟩
  rw [e]
  constructor
  · rintro rfl; omega
  · intro h
    rcases (show p = q ∨ p = q + 1 from by omega) with h1 | h1
    · exact h1
    · subst h1
      rw [Int.mul_add] at g
      omega

theorem okP_neg (x : R) (h : okP x = true) : okP ⟨-x.lo, x.hi⟩ = true := by
  obtain ⟨k0, k1, k2⟩ := (okP_iff _).1 h
  refine (okP_iff _).2 ⟨by simp only; omega, k1, ?_⟩
  show divS (-x.lo) x.hi = 1
  unfold divS at k2 ⊢
  rw [Int.neg_gcd]
  exact k2

theorem makePart_zero (p q : Int) (h : q = 0) : makePartS p q = (⟨0, 0⟩, 3) := by
  unfold makePartS
  rw [if_pos (.inr h)]

theorem makePart_small (p q : Int) (hp : -32768 ≤ p ∧ p ≤ 32767) (hq : -32768 ≤ q ∧ q ≤ 32767) (h : q ≠ 0) :
    ∃ x0 x1 : Int, makePartS p q = (⟨x0, x1⟩, 0) ∧ okP ⟨x0, x1⟩ = true ∧ p * x1 = q * x0 ∧ (-32768 ≤ x0 ∧ x0 ≤ 32768) ∧ (1 ≤ x1 ∧ x1 ≤ 32768) := by
  obtain ⟨⟨x0, x1⟩, h1, h2, h3, h4, h5⟩ := lowest_small p q (by omega) (by omega) h
  obtain ⟨k0, k1, k2⟩ := (okP_iff _).1 h2
  simp only at *
  refine ⟨x0, x1, ?_, h2, h3, by omega, by omega⟩
  unfold makePartS
  rw [if_neg ?_, h1]
  rintro (h6 | h6)
  · rw [(btw2 _ _ _ _).2 (by omega)] at h6; simp at h6
  · exact h h6

end Go.Proofs.Ytfohdafijfjefaa
