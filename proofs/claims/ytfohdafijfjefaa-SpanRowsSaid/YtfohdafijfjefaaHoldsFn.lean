/- Contracts: spilelaw01.within, has, inside. -/
import Derived.Test.YtfohdafijfjefaaOwn
import Derived.Test.YtfohdafijfjefaaHoldsMath
set_option linter.unusedSimpArgs false
set_option linter.unusedVariables false
namespace Go.Proofs.Ytfohdafijfjefaa
open Go.RowKit Go.Shelf
attribute [local go_sem ↓] Go.wp_at_zero Go.wp_at_succ

theorem drawnB {w w' : World} {n : Nat} (h : w.drewN n = w') : Below w.heap.size w w' := h ▸ Drew.below ⟨n, rfl⟩ _

set_option maxHeartbeats 400000 in
theorem has_yes (lo hi n : Int) (h : lo ≤ n ∧ n ≤ hi) (w : World) :
    Calls Try.prog 65 #[.agg #[.int .i64 lo, .int .i64 hi], .int .i64 n] w fun e w' => e = .returned (.bool true) ∧ Below w.heap.size w w' := by
  obtain ⟨h1, h2⟩ := h
  go_enter Try.func65, Try.ntmps65
  go_wp2
  go_ret
  exact ⟨rfl, (by (try show Below _ _ _); repeat (first | (with_reducible refine Below.setCell ?_ (by first | omega | (simp <;> omega)) _) | (with_reducible refine Below.alloc ?_ (by first | omega | (simp <;> omega)) _) | (with_reducible refine Below.drew ?_) | (with_reducible exact Below.refl _ _) | (with_reducible refine below_call ?_ (by assumption) (by first | omega | (simp <;> omega))) | (with_reducible refine below_call ?_ (Drew.below (by assumption) _) (by first | omega | (simp <;> omega)))))⟩

set_option maxHeartbeats 400000 in
theorem has_no (lo hi n : Int) (h : n < lo ∨ hi < n) (w : World) :
    Calls Try.prog 65 #[.agg #[.int .i64 lo, .int .i64 hi], .int .i64 n] w fun e w' => e = .returned (.bool false) ∧ Below w.heap.size w w' := by
  by_cases h1 : n < lo
  · skip
    go_enter Try.func65, Try.ntmps65
    go_wp2
    go_ret
    exact ⟨rfl, (by (try show Below _ _ _); repeat (first | (with_reducible refine Below.setCell ?_ (by first | omega | (simp <;> omega)) _) | (with_reducible refine Below.alloc ?_ (by first | omega | (simp <;> omega)) _) | (with_reducible refine Below.drew ?_) | (with_reducible exact Below.refl _ _) | (with_reducible refine below_call ?_ (by assumption) (by first | omega | (simp <;> omega))) | (with_reducible refine below_call ?_ (Drew.below (by assumption) _) (by first | omega | (simp <;> omega)))))⟩
  · have h2 : lo ≤ n := by omega
    have h3 : hi < n := by omega
    have h4 : decide (n ≤ hi) = false := by rw [decide_eq_false_iff_not]; omega
    clear h
    go_enter Try.func65, Try.ntmps65
    go_wp2
    go_ret
    exact ⟨rfl, (by (try show Below _ _ _); repeat (first | (with_reducible refine Below.setCell ?_ (by first | omega | (simp <;> omega)) _) | (with_reducible refine Below.alloc ?_ (by first | omega | (simp <;> omega)) _) | (with_reducible refine Below.drew ?_) | (with_reducible exact Below.refl _ _) | (with_reducible refine below_call ?_ (by assumption) (by first | omega | (simp <;> omega))) | (with_reducible refine below_call ?_ (Drew.below (by assumption) _) (by first | omega | (simp <;> omega)))))⟩

set_option maxHeartbeats 400000 in
theorem inside_yes (a0 a1 b0 b1 : Int) (h : b0 ≤ a0 ∧ a1 ≤ b1) (w : World) :
    Calls Try.prog 64 #[.agg #[.int .i64 a0, .int .i64 a1], .agg #[.int .i64 b0, .int .i64 b1]] w fun e w' => e = .returned (.bool true) ∧ Below w.heap.size w w' := by
  obtain ⟨h1, h2⟩ := h
  go_enter Try.func64, Try.ntmps64
  go_wp2
  go_ret
  exact ⟨rfl, (by (try show Below _ _ _); repeat (first | (with_reducible refine Below.setCell ?_ (by first | omega | (simp <;> omega)) _) | (with_reducible refine Below.alloc ?_ (by first | omega | (simp <;> omega)) _) | (with_reducible refine Below.drew ?_) | (with_reducible exact Below.refl _ _) | (with_reducible refine below_call ?_ (by assumption) (by first | omega | (simp <;> omega))) | (with_reducible refine below_call ?_ (Drew.below (by assumption) _) (by first | omega | (simp <;> omega)))))⟩

theorem pick_btw (lo hi p : Int) (h : lo ≤ hi) (hp : 0 ≤ p) : lo ≤ lo + p % (hi - lo + 1) ∧ lo + p % (hi - lo + 1) ≤ hi := by
  have h1 := Int.emod_nonneg p (show hi - lo + 1 ≠ 0 by omega)
  have h2 := Int.emod_lt_of_pos p (show 0 < hi - lo + 1 by omega)
  omega

set_option maxHeartbeats 1000000 in
theorem within_any (lo hi p : Int) (h : -1000000000000000 ≤ lo ∧ lo ≤ hi ∧ hi ≤ 1000000000000000) (hp : 0 ≤ p ∧ p ≤ 4294967295) (w : World) :
    Calls Try.prog 81 #[.agg #[.int .i64 lo, .int .i64 hi], .int .u32 p] w fun e w' => e = .returned (.tuple #[.int .i64 (lo + p % (hi - lo + 1)), .bool true]) ∧ Below w.heap.size w w' := by
  obtain ⟨h1, h2, h3⟩ := h
  have hb := pick_btw lo hi p h2 hp.1
  have w1 : IntKind.i64.wrap p = p := by rw [IntKind.wrap_i64]; omega
  have w2 : IntKind.i64.wrap (hi - lo) = hi - lo := by rw [IntKind.wrap_i64]; omega
  have w3 : IntKind.i64.wrap (hi - lo + 1) = hi - lo + 1 := by rw [IntKind.wrap_i64]; omega
  have w4 : wrap64 (lo + p % (hi - lo + 1)) = lo + p % (hi - lo + 1) := IntWalk.wrap64_in _ ⟨by omega, by omega⟩
  have w7 : IntKind.i64.wrap (lo + p % (hi - lo + 1)) = lo + p % (hi - lo + 1) := by rw [IntKind.wrap_i64]; omega
  have w5 : ¬ hi - lo + 1 = 0 := by omega
  have w6 : (hi - lo + 1 == 0) = false := by rw [beq_eq_false_iff_ne]; exact w5
  clear hb
  go_enter Try.func81, Try.ntmps81
  go_wp2_with fail
  go_quiet (fail)
  go_wp2
  go_ret2
  exact ⟨rfl, below_drewN' ((by (try show Below _ _ _); repeat (first | (with_reducible refine Below.setCell ?_ (by first | omega | (simp <;> omega)) _) | (with_reducible refine Below.alloc ?_ (by first | omega | (simp <;> omega)) _) | (with_reducible refine Below.drew ?_) | (with_reducible exact Below.refl _ _) | (with_reducible refine below_call ?_ (by assumption) (by first | omega | (simp <;> omega))) | (with_reducible refine below_call ?_ (Drew.below (by assumption) _) (by first | omega | (simp <;> omega)))))) _⟩

theorem tdiv_mono (a b : Int) (h : a ≤ b) (ha : -2147483648 ≤ a) (hb : b ≤ 2147483647) : -11000000 ≤ a.tdiv 200 ∧ a.tdiv 200 ≤ b.tdiv 200 ∧ b.tdiv 200 ≤ 11000000 := by
  have e : ∀ z : Int, z.tdiv 200 = if 0 ≤ z then z / 200 else -(-z / 200) := by
    intro z
    split
    · exact Int.tdiv_eq_ediv_of_nonneg ‹_›
    · have := Int.neg_tdiv (a := -z) (b := 200)
      rw [Int.neg_neg] at this
      rw [this, Int.tdiv_eq_ediv_of_nonneg (by omega)]
  rw [e a, e b]
  split <;> split <;> omega

end Go.Proofs.Ytfohdafijfjefaa
