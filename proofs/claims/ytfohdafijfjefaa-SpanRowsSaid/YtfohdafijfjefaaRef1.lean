/- Contracts: the reference of chapter 1: In, Range, fits, Floor, Ceil, abs, Scaled, Scale, product, Times, Over. -/
import Derived.Test.YtfohdafijfjefaaSpanMath
import Derived.Test.YtfohdafijfjefaaMM
import Derived.Deep.QuietTactic
import Derived.BigQuiet
set_option linter.unusedSimpArgs false
set_option linter.unusedVariables false
namespace Go.Proofs.Ytfohdafijfjefaa
open Go.RowKit Go.Shelf

def inS (n l m : Int) : Bool := decide (l ≤ n) && decide (n ≤ m)
theorem inS_iff (n l m : Int) : inS n l m = true ↔ l ≤ n ∧ n ≤ m := by simp [inS]
theorem inS_no (n l m : Int) : inS n l m = false ↔ n < l ∨ m < n := by
  rw [← Bool.not_eq_true, inS_iff]; omega

set_option maxHeartbeats 400000 in
theorem in_any (n l m : Int) (w : World) :
    Calls Try.prog 45 #[.int .i64 n, .int .i64 l, .int .i64 m] w fun e w' => e = .returned (.bool (inS n l m)) ∧ w = w' := by
  unfold inS
  by_cases h1 : l ≤ n <;> by_cases h2 : n ≤ m
  all_goals
    go_enter Try.func45, Try.ntmps45
    go_wp2
    go_ret
    exact ⟨by simp [h1, h2], rfl⟩

set_option maxHeartbeats 400000 in
theorem refRange_any (a b : Int) (w : World) :
    Calls Try.prog 69 #[.agg #[.int .i64 a, .int .i64 b]] w fun e w' => e = .returned (.bool (okR ⟨a, b⟩)) ∧ Below w.heap.size w w' := by
  have e : okR ⟨a, b⟩ = (inS a (-1000000000000000) 1000000000000000 && inS b a 1000000000000000) := by
    rw [Bool.eq_iff_iff, okR_iff, Bool.and_eq_true, inS_iff, inS_iff]
    simp only; omega
  rw [e]
  have h1 := fun W => in_any a (-1000000000000000) 1000000000000000 W
  have h2 := fun W => in_any b a 1000000000000000 W
  clear e
  generalize inS a (-1000000000000000) 1000000000000000 = p at h1 ⊢
  generalize inS b a 1000000000000000 = q at h2 ⊢
  cases p with
  | false =>
    go_enter Try.func69, Try.ntmps69
    go_wp2_with fail
    refine (h1 _).mono ?_
    rintro e w0x ⟨rfl, rfl⟩
    go_wp2
    go_ret
    exact ⟨rfl, (by (try show Below _ _ _); repeat (first | (with_reducible refine Below.setCell ?_ (by first | omega | (simp <;> omega)) _) | (with_reducible refine Below.alloc ?_ (by first | omega | (simp <;> omega)) _) | (with_reducible refine Below.drew ?_) | (with_reducible exact Below.refl _ _) | (with_reducible refine below_call ?_ (by assumption) (by first | omega | (simp <;> omega))) | (with_reducible refine below_call ?_ (Drew.below (by assumption) _) (by first | omega | (simp <;> omega)))))⟩
  | true =>
    go_enter Try.func69, Try.ntmps69
    go_wp2_with fail
    refine (h1 _).mono ?_
    rintro e w0x ⟨rfl, rfl⟩
    go_wp2_with fail
    refine (h2 _).mono ?_
    rintro e w0x ⟨rfl, rfl⟩
    go_wp2
    go_ret
    exact ⟨by simp, (by (try show Below _ _ _); repeat (first | (with_reducible refine Below.setCell ?_ (by first | omega | (simp <;> omega)) _) | (with_reducible refine Below.alloc ?_ (by first | omega | (simp <;> omega)) _) | (with_reducible refine Below.drew ?_) | (with_reducible exact Below.refl _ _) | (with_reducible refine below_call ?_ (by assumption) (by first | omega | (simp <;> omega))) | (with_reducible refine below_call ?_ (Drew.below (by assumption) _) (by first | omega | (simp <;> omega)))))⟩

set_option maxHeartbeats 400000 in
theorem fits_any (lo hi : Int) (w : World) :
    Calls Try.prog 93 #[.int .i64 lo, .int .i64 hi] w fun e w' => e = .returned (RE (madeS lo hi)) ∧ Below w.heap.size w w' := by
  have hR := fun W => refRange_any lo hi W
  unfold madeS RE
  cases h0 : okR ⟨lo, hi⟩ with
  | false =>
    rw [h0] at hR
    rw [if_neg (by decide)]
    go_enter Try.func93, Try.ntmps93
    go_wp2_with fail
    refine (hR _).mono ?_
    rintro e w1 ⟨rfl, hb1⟩
    have hz1 := hb1.size
    try simp only [World.size_alloc, World.size_setCell, World.size_drew] at hz1
    have hc1_0 := fun o => hb1.cell (p := ⟨w.heap.size, o, none⟩) (by show w.heap.size < _; first | omega | (simp only [World.size_alloc, World.size_setCell, World.size_drew]; omega))
    have hf1_0 := fun o => hb1.frozen (p := ⟨w.heap.size, o, none⟩) (by show w.heap.size < _; first | omega | (simp only [World.size_alloc, World.size_setCell, World.size_drew]; omega))
    have hz1_0 : w.heap.size < w1.heap.size := by omega
    have hc1_1 := fun o => hb1.cell (p := ⟨w.heap.size + 1, o, none⟩) (by show w.heap.size + 1 < _; first | omega | (simp only [World.size_alloc, World.size_setCell, World.size_drew]; omega))
    have hf1_1 := fun o => hb1.frozen (p := ⟨w.heap.size + 1, o, none⟩) (by show w.heap.size + 1 < _; first | omega | (simp only [World.size_alloc, World.size_setCell, World.size_drew]; omega))
    have hz1_1 : w.heap.size + 1 < w1.heap.size := by omega
    go_wp2
    refine bodyPost_ret (v := .tuple #[.agg #[.int .i64 0, .int .i64 0], .int .i64 10]) (by simp [results, Try.results93, go_sem, cell_set, hc1_0, hc1_1]) rfl ⟨rfl, (by (try show Below _ _ _); repeat (first | (with_reducible refine Below.setCell ?_ (by first | omega | (simp <;> omega)) _) | (with_reducible refine Below.alloc ?_ (by first | omega | (simp <;> omega)) _) | (with_reducible refine Below.drew ?_) | (with_reducible exact Below.refl _ _) | (with_reducible refine below_call ?_ (by assumption) (by first | omega | (simp <;> omega))) | (with_reducible refine below_call ?_ (Drew.below (by assumption) _) (by first | omega | (simp <;> omega)))))⟩
  | true =>
    rw [h0] at hR
    rw [if_pos rfl]
    go_enter Try.func93, Try.ntmps93
    go_wp2_with fail
    refine (hR _).mono ?_
    rintro e w1 ⟨rfl, hb1⟩
    have hz1 := hb1.size
    try simp only [World.size_alloc, World.size_setCell, World.size_drew] at hz1
    have hc1_0 := fun o => hb1.cell (p := ⟨w.heap.size, o, none⟩) (by show w.heap.size < _; first | omega | (simp only [World.size_alloc, World.size_setCell, World.size_drew]; omega))
    have hf1_0 := fun o => hb1.frozen (p := ⟨w.heap.size, o, none⟩) (by show w.heap.size < _; first | omega | (simp only [World.size_alloc, World.size_setCell, World.size_drew]; omega))
    have hz1_0 : w.heap.size < w1.heap.size := by omega
    have hc1_1 := fun o => hb1.cell (p := ⟨w.heap.size + 1, o, none⟩) (by show w.heap.size + 1 < _; first | omega | (simp only [World.size_alloc, World.size_setCell, World.size_drew]; omega))
    have hf1_1 := fun o => hb1.frozen (p := ⟨w.heap.size + 1, o, none⟩) (by show w.heap.size + 1 < _; first | omega | (simp only [World.size_alloc, World.size_setCell, World.size_drew]; omega))
    have hz1_1 : w.heap.size + 1 < w1.heap.size := by omega
    go_wp2
    refine bodyPost_ret (v := .tuple #[.agg #[.int .i64 lo, .int .i64 hi], .int .i64 0]) (by simp [results, Try.results93, go_sem, cell_set, hc1_0, hc1_1]) rfl ⟨rfl, (by (try show Below _ _ _); repeat (first | (with_reducible refine Below.setCell ?_ (by first | omega | (simp <;> omega)) _) | (with_reducible refine Below.alloc ?_ (by first | omega | (simp <;> omega)) _) | (with_reducible refine Below.drew ?_) | (with_reducible exact Below.refl _ _) | (with_reducible refine below_call ?_ (by assumption) (by first | omega | (simp <;> omega))) | (with_reducible refine below_call ?_ (Drew.below (by assumption) _) (by first | omega | (simp <;> omega)))))⟩

theorem floor_cases (a b : Int) (hb : 0 < b) : (0 ≤ a → a.tdiv b = a / b ∧ a.tmod b = a % b) ∧ (a < 0 → (a.tmod b < 0 → a.tdiv b - 1 = a / b) ∧ (¬ a.tmod b < 0 → a.tdiv b = a / b) ∧ a ≤ a.tdiv b ∧ a.tdiv b ≤ 0 ∧ a ≤ a / b) := by
  refine ⟨fun h => ⟨Int.tdiv_eq_ediv_of_nonneg h, Int.tmod_eq_emod_of_nonneg h⟩, fun h => ?_⟩
  have e1 := Int.tdiv_eq_ediv (a := a) (b := b)
  have e2 := Int.tmod_eq_emod (a := a) (b := b)
  have hs : Int.sign b = 1 := Int.sign_eq_one_of_pos hb
  have hd := Int.mul_ediv_add_emod a b
  have h1 := Int.emod_nonneg a (show b ≠ 0 by omega)
  have h2 := Int.emod_lt_of_pos a hb
  have hle : a ≤ a / b := Int.le_ediv_of_mul_le hb (by
    have := Int.mul_le_mul_of_nonpos_left (a := a) (b := b) (c := 1) (by omega) (by omega)
    omega)
  have hneg : a / b < 0 := Int.ediv_neg_of_neg_of_pos h hb
  by_cases hdv : b ∣ a
  · have hz : a % b = 0 := Int.emod_eq_zero_of_dvd hdv
    rw [if_pos (.inr hdv)] at e1 e2
    rw [e1, e2]
    omega
  · have hz : a % b ≠ 0 := fun hz => hdv (Int.dvd_of_emod_eq_zero hz)
    have hc : ¬ (0 ≤ a ∨ b ∣ a) := by
      rintro (h' | h')
      · omega
      · exact hdv h'
    rw [if_neg hc] at e1 e2
    rw [hs] at e1
    rw [e1, e2]
    omega

theorem ret_int {k : IntKind} {a b : Int} (h : a = b) : Ending.returned (.int k a) = .returned (.int k b) := by rw [h]

set_option maxHeartbeats 400000 in
theorem floor_any (a b : Int) (hb : 0 < b) (ha : -9223372036854775807 ≤ a ∧ a ≤ 9223372036854775807) (w : World) :
    Calls Try.prog 95 #[.int .i64 a, .int .i64 b] w fun e w' => e = .returned (.int .i64 (a / b)) ∧ w = w' := by
  obtain ⟨f1, f2⟩ := floor_cases a b hb
  obtain ⟨a1, a2⟩ := ha
  by_cases h : 0 ≤ a
  · have h1 := Int.emod_nonneg a (show b ≠ 0 by omega)
    have h2 : ¬ a % b < 0 := by omega
    have h3 := Int.ediv_le_self b h
    have h4 := Int.ediv_nonneg h (show 0 ≤ b by omega)
    clear f1 f2
    go_enter Try.func95, Try.ntmps95
    go_wp2
    go_ret
    exact ⟨rfl, rfl⟩
  · obtain ⟨g1, g2, g3, g4, g5⟩ := f2 (by omega)
    clear f1 f2
    by_cases hm : a.tmod b < 0
    · have E := Lib.hid (g1 hm)
      clear g1 g2
      go_enter Try.func95, Try.ntmps95
      go_wp2
      go_ret
      exact ⟨ret_int E.out, rfl⟩
    · have E := Lib.hid (g2 hm)
      clear g1 g2
      go_enter Try.func95, Try.ntmps95
      go_wp2
      go_ret
      exact ⟨ret_int E.out, rfl⟩

set_option maxHeartbeats 400000 in
theorem ceil_any (a b : Int) (hb : 0 < b) (ha : -9223372036854775807 ≤ a ∧ a ≤ 9223372036854775807) (w : World) :
    Calls Try.prog 96 #[.int .i64 a, .int .i64 b] w fun e w' => e = .returned (.int .i64 (cdiv a b)) ∧ w = w' := by
  have hF := fun W => floor_any (-a) b hb (by omega) W
  have hbd : -9223372036854775807 ≤ -a / b ∧ -a / b ≤ 9223372036854775807 := by
    by_cases h : 0 ≤ -a
    · have := Int.ediv_le_self (b := b) (a := -a) h
      have := Int.ediv_nonneg h (show 0 ≤ b by omega)
      omega
    · have := (floor_cases (-a) b hb).2 (by omega)
      have := Int.ediv_neg_of_neg_of_pos (a := -a) (b := b) (by omega) hb
      omega
  unfold cdiv
  generalize -a / b = q at hF hbd ⊢
  go_enter Try.func96, Try.ntmps96
  go_wp2_with fail
  refine (hF _).mono ?_
  rintro e w0x ⟨rfl, rfl⟩
  go_wp2
  go_ret
  exact ⟨rfl, rfl⟩

set_option maxHeartbeats 400000 in
theorem abs_any (n : Int) (hn : -9223372036854775807 ≤ n ∧ n ≤ 9223372036854775807) (w : World) :
    Calls Try.prog 109 #[.int .i64 n] w fun e w' => e = .returned (.int .i64 (n.natAbs : Int)) ∧ w = w' := by
  have e : (n.natAbs : Int) = max n (-n) := by omega
  rw [e]
  obtain ⟨n1, n2⟩ := hn
  clear e
  go_enter Try.func109, Try.ntmps109
  go_wp2
  go_ret
  exact ⟨rfl, rfl⟩

end Go.Proofs.Ytfohdafijfjefaa
