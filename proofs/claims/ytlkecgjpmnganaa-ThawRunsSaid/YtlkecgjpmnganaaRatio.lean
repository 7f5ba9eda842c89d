/- Contract: span.ratio. -/
import Derived.Test.YtlkecgjpmnganaaDiv64
set_option linter.unusedSimpArgs false
set_option linter.unusedVariables false
namespace Go.Proofs.Ytlkecgjpmnganaa
open Go.RowKit Go.Shelf

theorem div64 (hi lo y : Nat) (hhi : hi < y) (hlo : lo < 18446744073709551616) (hy : y < 18446744073709551616) (w : World) :
    Calls Try.prog 106 #[.int .u64 hi, .int .u64 lo, .int .u64 y] w fun e w' => e = .returned (.tuple #[.int .u64 (((hi * 18446744073709551616 + lo) / y : Nat) : Int), .int .u64 (((hi * 18446744073709551616 + lo) % y : Nat) : Int)]) ∧ Drew w w' := by
  by_cases h : hi = 0
  · subst h
    refine (div64_small lo y hlo hy hhi w).mono fun e w' ⟨he, hd⟩ => ⟨by simpa using he, hd⟩
  · exact (div64_big hi lo y hhi (by omega) hlo hy w).mono fun e w' ⟨he, hw⟩ => ⟨he, hw ▸ Drew.refl _⟩

/-- a * b / c rounded down and up; what is too great: beyond -/
def ratioN (neg : Bool) (P C : Nat) : Int × Int :=
  if P / C < 2000000000000000 then
    if 0 < P % C then (if neg then (-((P / C : Nat) : Int) - 1, -((P / C : Nat) : Int)) else (((P / C : Nat) : Int), ((P / C : Nat) : Int) + 1))
    else (if neg then (-((P / C : Nat) : Int), -((P / C : Nat) : Int)) else (((P / C : Nat) : Int), ((P / C : Nat) : Int)))
  else (if neg then (-2000000000000000, -2000000000000000) else (2000000000000000, 2000000000000000))

def ratioS (a b c : Int) : Int × Int := ratioN (decide (a < 0) != decide (b < 0)) (a.natAbs * b.natAbs) c.toNat

theorem lit_eq {n m : Int} (h : n = m) : Value.int .i64 n = Value.int .i64 m := by rw [h]

set_option maxHeartbeats 2000000 in
set_option maxRecDepth 20000 in
theorem ratio_pp (A B C : Nat) (hA : 0 ≤ A) (hA2 : A < 9223372036854775808) (hB : 0 ≤ B) (hB2 : B < 9223372036854775808) (hC : 0 < C) (hC2 : C < 9223372036854775808) (w : World) :
    Calls Try.prog 103 #[.int .i64 ((A : Int)), .int .i64 ((B : Int)), .int .i64 (C : Int)] w fun e w' => e = .returned (.tuple #[.int .i64 (ratioN false (A * B) C).1, .int .i64 (ratioN false (A * B) C).2]) ∧ Drew w w' := by
  have hmul := fun W => mul64 A B (by omega) (by omega) W
  have hP : A * B / 18446744073709551616 * 18446744073709551616 + A * B % 18446744073709551616 = A * B := Nat.div_add_mod' _ _
  have hlo : A * B % 18446744073709551616 < 18446744073709551616 := Nat.mod_lt _ (by omega)
  have hdiv := fun h W => div64 (A * B / 18446744073709551616) (A * B % 18446744073709551616) C h hlo (by omega) W
  rw [hP] at hdiv
  have hbig : ¬ A * B / 18446744073709551616 < C → ¬ A * B / C < 2000000000000000 := by
    intro h h2
    have h4 := DivM.big (A * B) C 18446744073709551616 hC h
    omega
  generalize A * B % 18446744073709551616 = lo at hmul hdiv hlo hP
  generalize A * B / 18446744073709551616 = hi at hmul hdiv hbig hP
  clear hP
  have hr : (A * B) % C < C := Nat.mod_lt _ hC
  unfold ratioN
  generalize A * B / C = q at hdiv hbig ⊢
  generalize A * B % C = r at hdiv hr ⊢
  have ha0 : (decide (((A : Int)) < 0)) = false := by simp; try omega
  have hb0 : (decide (((B : Int)) < 0)) = false := by simp; try omega
  by_cases hhc : hi < C
  · have hhcz : (hi : Int) < (C : Int) := by omega
    have hdv := hdiv hhc
    by_cases hq : q < 2000000000000000
    · have hqz : True → decide ((q : Int) < 2000000000000000) = true := fun _ => by simp; omega
      by_cases hr0 : 0 < r
      · rw [if_pos hq, if_pos hr0]
        clear hdiv hbig
        go_enter Try.func103, Try.ntmps103
        go_wp2_with (first | (go_at_call 105; refine (hmul _).mono ?_; rintro e w' ⟨rfl, rfl⟩) | (go_at_call 106; refine (hdv _).mono ?_; rintro e w' ⟨rfl, hd⟩))
        go_ret2
        exact ⟨by simp; try omega, hd⟩
      · rw [if_pos hq, if_neg hr0]
        obtain rfl : r = 0 := by omega
        clear hdiv hbig
        go_enter Try.func103, Try.ntmps103
        go_wp2_with (first | (go_at_call 105; refine (hmul _).mono ?_; rintro e w' ⟨rfl, rfl⟩) | (go_at_call 106; refine (hdv _).mono ?_; rintro e w' ⟨rfl, hd⟩))
        go_ret2
        exact ⟨by simp, hd⟩
    · have hqz : True → decide ((q : Int) < 2000000000000000) = false := fun _ => by simp; omega
      rw [if_neg hq]
      clear hdiv hbig
      go_enter Try.func103, Try.ntmps103
      go_wp2_with (first | (go_at_call 105; refine (hmul _).mono ?_; rintro e w' ⟨rfl, rfl⟩) | (go_at_call 106; refine (hdv _).mono ?_; rintro e w' ⟨rfl, hd⟩))
      go_ret2
      exact ⟨by simp, hd⟩
  · have hhcz : decide (hi < C) = false := by simp; omega
    rw [if_neg (hbig hhc)]
    clear hdiv hbig
    go_enter Try.func103, Try.ntmps103
    go_wp2_with (go_at_call 105; refine (hmul _).mono ?_; rintro e w' ⟨rfl, rfl⟩)
    go_ret2
    exact ⟨by simp, Drew.refl _⟩

set_option maxHeartbeats 2000000 in
set_option maxRecDepth 20000 in
theorem ratio_pn (A B C : Nat) (hA : 0 ≤ A) (hA2 : A < 9223372036854775808) (hB : 0 < B) (hB2 : B < 9223372036854775808) (hC : 0 < C) (hC2 : C < 9223372036854775808) (w : World) :
    Calls Try.prog 103 #[.int .i64 ((A : Int)), .int .i64 (-(B : Int)), .int .i64 (C : Int)] w fun e w' => e = .returned (.tuple #[.int .i64 (ratioN true (A * B) C).1, .int .i64 (ratioN true (A * B) C).2]) ∧ Drew w w' := by
  have hmul := fun W => mul64 A B (by omega) (by omega) W
  have hP : A * B / 18446744073709551616 * 18446744073709551616 + A * B % 18446744073709551616 = A * B := Nat.div_add_mod' _ _
  have hlo : A * B % 18446744073709551616 < 18446744073709551616 := Nat.mod_lt _ (by omega)
  have hdiv := fun h W => div64 (A * B / 18446744073709551616) (A * B % 18446744073709551616) C h hlo (by omega) W
  rw [hP] at hdiv
  have hbig : ¬ A * B / 18446744073709551616 < C → ¬ A * B / C < 2000000000000000 := by
    intro h h2
    have h4 := DivM.big (A * B) C 18446744073709551616 hC h
    omega
  generalize A * B % 18446744073709551616 = lo at hmul hdiv hlo hP
  generalize A * B / 18446744073709551616 = hi at hmul hdiv hbig hP
  clear hP
  have hr : (A * B) % C < C := Nat.mod_lt _ hC
  unfold ratioN
  generalize A * B / C = q at hdiv hbig ⊢
  generalize A * B % C = r at hdiv hr ⊢
  have ha0 : (decide (((A : Int)) < 0)) = false := by simp; try omega
  have hb0 : (decide ((-(B : Int)) < 0)) = true := by simp; try omega
  by_cases hhc : hi < C
  · have hhcz : (hi : Int) < (C : Int) := by omega
    have hdv := hdiv hhc
    by_cases hq : q < 2000000000000000
    · have hqz : True → decide ((q : Int) < 2000000000000000) = true := fun _ => by simp; omega
      by_cases hr0 : 0 < r
      · rw [if_pos hq, if_pos hr0]
        clear hdiv hbig
        go_enter Try.func103, Try.ntmps103
        go_wp2_with (first | (go_at_call 105; refine (hmul _).mono ?_; rintro e w' ⟨rfl, rfl⟩) | (go_at_call 106; refine (hdv _).mono ?_; rintro e w' ⟨rfl, hd⟩))
        go_ret2
        exact ⟨by simp; try omega, hd⟩
      · rw [if_pos hq, if_neg hr0]
        obtain rfl : r = 0 := by omega
        clear hdiv hbig
        go_enter Try.func103, Try.ntmps103
        go_wp2_with (first | (go_at_call 105; refine (hmul _).mono ?_; rintro e w' ⟨rfl, rfl⟩) | (go_at_call 106; refine (hdv _).mono ?_; rintro e w' ⟨rfl, hd⟩))
        go_ret2
        exact ⟨by simp, hd⟩
    · have hqz : True → decide ((q : Int) < 2000000000000000) = false := fun _ => by simp; omega
      rw [if_neg hq]
      clear hdiv hbig
      go_enter Try.func103, Try.ntmps103
      go_wp2_with (first | (go_at_call 105; refine (hmul _).mono ?_; rintro e w' ⟨rfl, rfl⟩) | (go_at_call 106; refine (hdv _).mono ?_; rintro e w' ⟨rfl, hd⟩))
      go_ret2
      exact ⟨by simp, hd⟩
  · have hhcz : decide (hi < C) = false := by simp; omega
    rw [if_neg (hbig hhc)]
    clear hdiv hbig
    go_enter Try.func103, Try.ntmps103
    go_wp2_with (go_at_call 105; refine (hmul _).mono ?_; rintro e w' ⟨rfl, rfl⟩)
    go_ret2
    exact ⟨by simp, Drew.refl _⟩

set_option maxHeartbeats 2000000 in
set_option maxRecDepth 20000 in
theorem ratio_np (A B C : Nat) (hA : 0 < A) (hA2 : A < 9223372036854775808) (hB : 0 ≤ B) (hB2 : B < 9223372036854775808) (hC : 0 < C) (hC2 : C < 9223372036854775808) (w : World) :
    Calls Try.prog 103 #[.int .i64 (-(A : Int)), .int .i64 ((B : Int)), .int .i64 (C : Int)] w fun e w' => e = .returned (.tuple #[.int .i64 (ratioN true (A * B) C).1, .int .i64 (ratioN true (A * B) C).2]) ∧ Drew w w' := by
  have hmul := fun W => mul64 A B (by omega) (by omega) W
  have hP : A * B / 18446744073709551616 * 18446744073709551616 + A * B % 18446744073709551616 = A * B := Nat.div_add_mod' _ _
  have hlo : A * B % 18446744073709551616 < 18446744073709551616 := Nat.mod_lt _ (by omega)
  have hdiv := fun h W => div64 (A * B / 18446744073709551616) (A * B % 18446744073709551616) C h hlo (by omega) W
  rw [hP] at hdiv
  have hbig : ¬ A * B / 18446744073709551616 < C → ¬ A * B / C < 2000000000000000 := by
    intro h h2
    have h4 := DivM.big (A * B) C 18446744073709551616 hC h
    omega
  generalize A * B % 18446744073709551616 = lo at hmul hdiv hlo hP
  generalize A * B / 18446744073709551616 = hi at hmul hdiv hbig hP
  clear hP
  have hr : (A * B) % C < C := Nat.mod_lt _ hC
  unfold ratioN
  generalize A * B / C = q at hdiv hbig ⊢
  generalize A * B % C = r at hdiv hr ⊢
  have ha0 : (decide ((-(A : Int)) < 0)) = true := by simp; try omega
  have hb0 : (decide (((B : Int)) < 0)) = false := by simp; try omega
  by_cases hhc : hi < C
  · have hhcz : (hi : Int) < (C : Int) := by omega
    have hdv := hdiv hhc
    by_cases hq : q < 2000000000000000
    · have hqz : True → decide ((q : Int) < 2000000000000000) = true := fun _ => by simp; omega
      by_cases hr0 : 0 < r
      · rw [if_pos hq, if_pos hr0]
        clear hdiv hbig
        go_enter Try.func103, Try.ntmps103
        go_wp2_with (first | (go_at_call 105; refine (hmul _).mono ?_; rintro e w' ⟨rfl, rfl⟩) | (go_at_call 106; refine (hdv _).mono ?_; rintro e w' ⟨rfl, hd⟩))
        go_ret2
        exact ⟨by simp; try omega, hd⟩
      · rw [if_pos hq, if_neg hr0]
        obtain rfl : r = 0 := by omega
        clear hdiv hbig
        go_enter Try.func103, Try.ntmps103
        go_wp2_with (first | (go_at_call 105; refine (hmul _).mono ?_; rintro e w' ⟨rfl, rfl⟩) | (go_at_call 106; refine (hdv _).mono ?_; rintro e w' ⟨rfl, hd⟩))
        go_ret2
        exact ⟨by simp, hd⟩
    · have hqz : True → decide ((q : Int) < 2000000000000000) = false := fun _ => by simp; omega
      rw [if_neg hq]
      clear hdiv hbig
      go_enter Try.func103, Try.ntmps103
      go_wp2_with (first | (go_at_call 105; refine (hmul _).mono ?_; rintro e w' ⟨rfl, rfl⟩) | (go_at_call 106; refine (hdv _).mono ?_; rintro e w' ⟨rfl, hd⟩))
      go_ret2
      exact ⟨by simp, hd⟩
  · have hhcz : decide (hi < C) = false := by simp; omega
    rw [if_neg (hbig hhc)]
    clear hdiv hbig
    go_enter Try.func103, Try.ntmps103
    go_wp2_with (go_at_call 105; refine (hmul _).mono ?_; rintro e w' ⟨rfl, rfl⟩)
    go_ret2
    exact ⟨by simp, Drew.refl _⟩

set_option maxHeartbeats 2000000 in
set_option maxRecDepth 20000 in
theorem ratio_nn (A B C : Nat) (hA : 0 < A) (hA2 : A < 9223372036854775808) (hB : 0 < B) (hB2 : B < 9223372036854775808) (hC : 0 < C) (hC2 : C < 9223372036854775808) (w : World) :
    Calls Try.prog 103 #[.int .i64 (-(A : Int)), .int .i64 (-(B : Int)), .int .i64 (C : Int)] w fun e w' => e = .returned (.tuple #[.int .i64 (ratioN false (A * B) C).1, .int .i64 (ratioN false (A * B) C).2]) ∧ Drew w w' := by
  have hmul := fun W => mul64 A B (by omega) (by omega) W
  have hP : A * B / 18446744073709551616 * 18446744073709551616 + A * B % 18446744073709551616 = A * B := Nat.div_add_mod' _ _
  have hlo : A * B % 18446744073709551616 < 18446744073709551616 := Nat.mod_lt _ (by omega)
  have hdiv := fun h W => div64 (A * B / 18446744073709551616) (A * B % 18446744073709551616) C h hlo (by omega) W
  rw [hP] at hdiv
  have hbig : ¬ A * B / 18446744073709551616 < C → ¬ A * B / C < 2000000000000000 := by
    intro h h2
    have h4 := DivM.big (A * B) C 18446744073709551616 hC h
    omega
  generalize A * B % 18446744073709551616 = lo at hmul hdiv hlo hP
  generalize A * B / 18446744073709551616 = hi at hmul hdiv hbig hP
  clear hP
  have hr : (A * B) % C < C := Nat.mod_lt _ hC
  unfold ratioN
  generalize A * B / C = q at hdiv hbig ⊢
  generalize A * B % C = r at hdiv hr ⊢
  have ha0 : (decide ((-(A : Int)) < 0)) = true := by simp; try omega
  have hb0 : (decide ((-(B : Int)) < 0)) = true := by simp; try omega
  by_cases hhc : hi < C
  · have hhcz : (hi : Int) < (C : Int) := by omega
    have hdv := hdiv hhc
    by_cases hq : q < 2000000000000000
    · have hqz : True → decide ((q : Int) < 2000000000000000) = true := fun _ => by simp; omega
      by_cases hr0 : 0 < r
      · rw [if_pos hq, if_pos hr0]
        clear hdiv hbig
        go_enter Try.func103, Try.ntmps103
        go_wp2_with (first | (go_at_call 105; refine (hmul _).mono ?_; rintro e w' ⟨rfl, rfl⟩) | (go_at_call 106; refine (hdv _).mono ?_; rintro e w' ⟨rfl, hd⟩))
        go_ret2
        exact ⟨by simp; try omega, hd⟩
      · rw [if_pos hq, if_neg hr0]
        obtain rfl : r = 0 := by omega
        clear hdiv hbig
        go_enter Try.func103, Try.ntmps103
        go_wp2_with (first | (go_at_call 105; refine (hmul _).mono ?_; rintro e w' ⟨rfl, rfl⟩) | (go_at_call 106; refine (hdv _).mono ?_; rintro e w' ⟨rfl, hd⟩))
        go_ret2
        exact ⟨by simp, hd⟩
    · have hqz : True → decide ((q : Int) < 2000000000000000) = false := fun _ => by simp; omega
      rw [if_neg hq]
      clear hdiv hbig
      go_enter Try.func103, Try.ntmps103
      go_wp2_with (first | (go_at_call 105; refine (hmul _).mono ?_; rintro e w' ⟨rfl, rfl⟩) | (go_at_call 106; refine (hdv _).mono ?_; rintro e w' ⟨rfl, hd⟩))
      go_ret2
      exact ⟨by simp, hd⟩
  · have hhcz : decide (hi < C) = false := by simp; omega
    rw [if_neg (hbig hhc)]
    clear hdiv hbig
    go_enter Try.func103, Try.ntmps103
    go_wp2_with (go_at_call 105; refine (hmul _).mono ?_; rintro e w' ⟨rfl, rfl⟩)
    go_ret2
    exact ⟨by simp, Drew.refl _⟩

theorem ratio_any (a b c : Int) (ha : -9223372036854775808 < a ∧ a < 9223372036854775808) (hb : -9223372036854775808 < b ∧ b < 9223372036854775808) (hc : 0 < c ∧ c < 9223372036854775808) (w : World) :
    Calls Try.prog 103 #[.int .i64 a, .int .i64 b, .int .i64 c] w fun e w' => e = .returned (.tuple #[.int .i64 (ratioS a b c).1, .int .i64 (ratioS a b c).2]) ∧ Drew w w' := by
  obtain ⟨C, rfl⟩ := Int.eq_ofNat_of_zero_le (show 0 ≤ c by omega)
  unfold ratioS
  rw [Int.toNat_natCast]
  by_cases h1 : a < 0
  · obtain ⟨A, rfl⟩ : ∃ A : Nat, a = -(A : Int) := ⟨a.natAbs, by omega⟩
    by_cases h2 : b < 0
    · obtain ⟨B, rfl⟩ : ∃ B : Nat, b = -(B : Int) := ⟨b.natAbs, by omega⟩
      have := ratio_nn A B C (by omega) (by omega) (by omega) (by omega) (by omega) (by omega) w
      rw [decide_eq_true h1, decide_eq_true h2, show (true != true) = false from rfl]
      simpa only [Int.natAbs_neg, Int.natAbs_natCast] using this
    · obtain ⟨B, rfl⟩ : ∃ B : Nat, b = (B : Int) := ⟨b.natAbs, by omega⟩
      have := ratio_np A B C (by omega) (by omega) (by omega) (by omega) (by omega) (by omega) w
      rw [decide_eq_true h1, decide_eq_false h2, show (true != false) = true from rfl]
      simpa only [Int.natAbs_neg, Int.natAbs_natCast] using this
  · obtain ⟨A, rfl⟩ : ∃ A : Nat, a = (A : Int) := ⟨a.natAbs, by omega⟩
    by_cases h2 : b < 0
    · obtain ⟨B, rfl⟩ : ∃ B : Nat, b = -(B : Int) := ⟨b.natAbs, by omega⟩
      have := ratio_pn A B C (by omega) (by omega) (by omega) (by omega) (by omega) (by omega) w
      rw [decide_eq_false h1, decide_eq_true h2, show (false != true) = true from rfl]
      simpa only [Int.natAbs_neg, Int.natAbs_natCast] using this
    · obtain ⟨B, rfl⟩ : ∃ B : Nat, b = (B : Int) := ⟨b.natAbs, by omega⟩
      have := ratio_pp A B C (by omega) (by omega) (by omega) (by omega) (by omega) (by omega) w
      rw [decide_eq_false h1, decide_eq_false h2, show (false != false) = false from rfl]
      simpa only [Int.natAbs_neg, Int.natAbs_natCast] using this

end Go.Proofs.Ytlkecgjpmnganaa
