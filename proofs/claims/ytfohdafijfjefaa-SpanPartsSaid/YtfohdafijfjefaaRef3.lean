/- Contracts: the reference's Divisor, Part, Lowest, MakePart, Compare, Of. -/
import Derived.Test.YtfohdafijfjefaaRef1b
import Derived.Test.YtfohdafijfjefaaParts
set_option linter.unusedSimpArgs false
set_option linter.unusedVariables false
namespace Go.Proofs.Ytfohdafijfjefaa
open Go.RowKit Go.Shelf

set_option maxHeartbeats 1000000 in
theorem refDivisor_any (a b : Int) (ha : -9223372036854775807 ≤ a ∧ a ≤ 9223372036854775807) (hb : -9223372036854775807 ≤ b ∧ b ≤ 9223372036854775807) (w : World) :
    Calls Try.prog 113 #[.int .i64 a, .int .i64 b] w fun e w' => e = .returned (.int .i64 (divS a b)) ∧ Below w.heap.size w w' := by
  have hA := fun W => abs_any a ha W
  have hB := fun W => abs_any b hb W
  go_enter Try.func113, Try.ntmps113
  go_wp2_with fail
  refine (hA _).mono ?_
  rintro e w0x ⟨rfl, rfl⟩
  go_wp2_with fail
  refine (hB _).mono ?_
  rintro e w0x ⟨rfl, rfl⟩
  go_wp2
  go_loopg [0, 1] (b.natAbs) (fun gg s0 s1 wr => ∃ x y : Int, s0 = .int .i64 x ∧ s1 = .int .i64 y ∧ y.natAbs ≤ gg ∧ Aside (Int.gcd x y = Int.gcd a b) ∧ (0 ≤ x ∧ x ≤ 9223372036854775807) ∧ (0 ≤ y ∧ y ≤ 9223372036854775807) ∧ Aside (Below w.heap.size w wr))
  case atStart => exact ⟨_, _, rfl, rfl, by omega, (show Int.gcd _ _ = Int.gcd a b by simp [Int.gcd]), by omega, by omega, (by (try show Below _ _ _); repeat (first | (with_reducible refine Below.setCell ?_ (by first | omega | (simp <;> omega)) _) | (with_reducible refine Below.alloc ?_ (by first | omega | (simp <;> omega)) _) | (with_reducible refine Below.drew ?_) | (with_reducible exact Below.refl _ _) | (with_reducible exact Below.refl _ _) | (with_reducible refine below_call ?_ (by assumption) (by first | omega | (simp <;> omega))) | (with_reducible refine below_call ?_ (Drew.below (by assumption) _) (by first | omega | (simp <;> omega)))))⟩
  case round =>
    obtain ⟨x, y, rfl, rfl, hg, hgc, hx, hy, hd⟩ := hrel
    by_cases h0 : y = 0
    · have hr : divS a b = x := by unfold divS; rw [← hgc.out, h0, Int.gcd_zero_right]; omega
      have Hr := Lib.hid hr
      have h0b : (y != 0) = false := by rw [h0]; rfl
      clear hr h0 hgc
      go_wp2
      go_ret
      exact ⟨by rw [Hr.out]; rfl, hd.out⟩
    · have h0b : (y != 0) = true := by rw [bne_iff_ne]; exact h0
      have h0c : (y == 0) = false := by rw [beq_eq_false_iff_ne]; exact h0
      have em : x.tmod y = x % y := Int.tmod_eq_emod_of_nonneg hx.1
      have hg1 := gcd_tmod x y h0
      have hab := tmod_abs x y h0
      have hnn : 0 ≤ x.tmod y := Int.tmod_nonneg y hx.1
      rw [em] at hg1 hab hnn
      have hg2 := Lib.hid hg1
      clear h0 em hg1
      have hb2 : 0 ≤ x % y ∧ x % y ≤ 9223372036854775807 := by omega
      go_wp2_with fail
      go_quiet (fail)
      go_wp2
      go_roundg ((x % y).natAbs)
      case measure => omega
      case rel =>
        exact ⟨y, _, rfl, rfl, Nat.le_refl _, hg2.out.trans hgc.out, hy, hb2, below_drewN' hd.out _⟩

set_option maxHeartbeats 400000 in
theorem refPart_any (a b : Int) (w : World) :
    Calls Try.prog 56 #[.agg #[.int .i64 a, .int .i64 b]] w fun e w' => e = .returned (.bool (okP ⟨a, b⟩)) ∧ Below w.heap.size w w' := by
  have h1 := fun W => in_any a (-1000000000) 1000000000 W
  have h2 := fun W => in_any b 1 1000000000 W
  have h3 := fun (k : inS a (-1000000000) 1000000000 = true) (k' : inS b 1 1000000000 = true) W => refDivisor_any a b (by have := (inS_iff _ _ _).1 k; omega) (by have := (inS_iff _ _ _).1 k'; omega) W
  unfold okP
  rw [btw_in, btw_in]
  simp only
  generalize inS a (-1000000000) 1000000000 = p at h1 h3 ⊢
  generalize inS b 1 1000000000 = q at h2 h3 ⊢
  generalize divS a b = g at h3 ⊢
  cases p with
  | false =>
    go_enter Try.func56, Try.ntmps56
    go_wp2_with fail
    refine (h1 _).mono ?_
    rintro e w0x ⟨rfl, rfl⟩
    go_wp2
    go_ret
    exact ⟨rfl, (by (try show Below _ _ _); repeat (first | (with_reducible refine Below.setCell ?_ (by first | omega | (simp <;> omega)) _) | (with_reducible refine Below.alloc ?_ (by first | omega | (simp <;> omega)) _) | (with_reducible refine Below.drew ?_) | (with_reducible exact Below.refl _ _) | (with_reducible refine below_call ?_ (by assumption) (by first | omega | (simp <;> omega))) | (with_reducible refine below_call ?_ (Drew.below (by assumption) _) (by first | omega | (simp <;> omega)))))⟩
  | true =>
    cases q with
    | false =>
      go_enter Try.func56, Try.ntmps56
      go_wp2_with fail
      refine (h1 _).mono ?_
      rintro e w0x ⟨rfl, rfl⟩
      go_wp2_with fail
      refine (h2 _).mono ?_
      rintro e w0x ⟨rfl, rfl⟩
      go_wp2
      go_ret
      exact ⟨rfl, (by (try show Below _ _ _); repeat (first | (with_reducible refine Below.setCell ?_ (by first | omega | (simp <;> omega)) _) | (with_reducible refine Below.alloc ?_ (by first | omega | (simp <;> omega)) _) | (with_reducible refine Below.drew ?_) | (with_reducible exact Below.refl _ _) | (with_reducible refine below_call ?_ (by assumption) (by first | omega | (simp <;> omega))) | (with_reducible refine below_call ?_ (Drew.below (by assumption) _) (by first | omega | (simp <;> omega)))))⟩
    | true =>
      have h4 := h3 rfl rfl
      clear h3
      go_enter Try.func56, Try.ntmps56
      go_wp2_with fail
      refine (h1 _).mono ?_
      rintro e w0x ⟨rfl, rfl⟩
      go_wp2_with fail
      refine (h2 _).mono ?_
      rintro e w0x ⟨rfl, rfl⟩
      go_wp2_with fail
      refine (h4 _).mono ?_
      rintro e w3 ⟨rfl, hb3⟩
      have hz3 := hb3.size
      try simp only [World.size_alloc, World.size_setCell, World.size_drew] at hz3
      have hc3_0 := fun o => hb3.cell (p := ⟨w.heap.size, o, none⟩) (by show w.heap.size < _; first | omega | (simp only [World.size_alloc, World.size_setCell, World.size_drew]; omega))
      have hf3_0 := fun o => hb3.frozen (p := ⟨w.heap.size, o, none⟩) (by show w.heap.size < _; first | omega | (simp only [World.size_alloc, World.size_setCell, World.size_drew]; omega))
      have hz3_0 : w.heap.size < w3.heap.size := by omega
      go_wp2
      go_ret
      have eg : (g == 1) = decide (g = 1) := by rw [Bool.eq_iff_iff]; simp
      exact ⟨by simp [eg], (by (try show Below _ _ _); repeat (first | (with_reducible refine Below.setCell ?_ (by first | omega | (simp <;> omega)) _) | (with_reducible refine Below.alloc ?_ (by first | omega | (simp <;> omega)) _) | (with_reducible refine Below.drew ?_) | (with_reducible exact Below.refl _ _) | (with_reducible refine below_call ?_ (by assumption) (by first | omega | (simp <;> omega))) | (with_reducible refine below_call ?_ (Drew.below (by assumption) _) (by first | omega | (simp <;> omega)))))⟩

end Go.Proofs.Ytfohdafijfjefaa
