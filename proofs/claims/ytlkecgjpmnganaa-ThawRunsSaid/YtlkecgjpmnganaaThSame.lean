/- Contracts: two equal lists compared (spilelaw04.same, ranges, states). -/
import Derived.Test.YtlkecgjpmnganaaThOwn
import Derived.Test.YtlkecgjpmnganaaThCheck
import Derived.BigQuiet
import Derived.StillTailTactics
set_option linter.unusedSimpArgs false
set_option linter.unusedVariables false
namespace Go.Proofs.Ytlkecgjpmnganaa
open Go.RowKit Go.Shelf

set_option maxHeartbeats 1000000 in
theorem sameK_self (lo1 lo2 : Nat) (A1 : Option Addr) (c1 : Nat) (A2 : Option Addr) (n c2 : Nat) (xs : List Int) (w : World) (hx : Ints w lo1 A1 xs) (hy : Ints w lo2 A2 xs) (hn : Aside (xs.length = n)) (hl : n ≤ maxLen) :
    Calls Try.prog 24 #[.slice A1 n c1, .slice A2 n c2] w fun e w' => e = .returned (.bool true) ∧ Drew w w' := by
  unfold maxLen at hl
  have HX := Lib.hid hx
  have HY := Lib.hid hy
  clear hx hy
  go_enter Try.func24, Try.ntmps24
  go_wp2
  go_loopg [5] (n) (fun gg i wr => ∃ k : Nat, k ≤ n ∧ n - k ≤ gg ∧ i = .int .i64 k ∧ Aside (Drew w wr))
  case atStart => exact ⟨0, Nat.zero_le _, Nat.le_refl _, rfl, Drew.refl _⟩
  case round =>
    obtain ⟨k, hk, hg, rfl, hd⟩ := hrel
    by_cases hlt : k < n
    · obtain ⟨b, o, rfl, _, hlb, hc⟩ := HX.out (by have := hn.out; omega)
      obtain ⟨b', o', rfl, _, hlb', hc'⟩ := HY.out (by have := hn.out; omega)
      have hdb := hd.out.below (w.heap.size)
      have x0 := (hdb.cell (p := ⟨b, o + k, none⟩) hlb).trans (hc k (by have := hn.out; omega))
      have y0 := (hdb.cell (p := ⟨b', o' + k, none⟩) hlb').trans (hc' k (by have := hn.out; omega))
      clear hc hc' hdb
      generalize xs[k]?.getD 0 = x at x0 y0
      have hltz : (k : Int) < (n : Int) := by omega
      have hk0 : (0 : Int) ≤ (k : Int) := by omega
      go_wp2_with fail
      go_quiet (fail)
      go_wp2
      go_roundg (n - (k + 1))
      case measure => omega
      case rel => exact ⟨k + 1, by omega, by omega, by go_num, (by obtain ⟨m, hm⟩ := hd.out; exact ⟨m + _, by rw [hm]; exact (World.drewN_drewN _ _ _)⟩)⟩
    · have hltz : ¬ (k : Int) < (n : Int) := by omega
      go_wp2
      go_ret
      exact ⟨rfl, hd.out⟩

set_option maxHeartbeats 1000000 in
theorem rangesR_self (lo1 lo2 : Nat) (A1 : Option Addr) (c1 : Nat) (A2 : Option Addr) (n c2 : Nat) (xs : List R) (w : World) (hx : Ranges w lo1 A1 xs) (hy : Ranges w lo2 A2 xs) (hn : Aside (xs.length = n)) (hl : n ≤ maxLen) :
    Calls Try.prog 19 #[.slice A1 n c1, .slice A2 n c2] w fun e w' => e = .returned (.bool true) ∧ Drew w w' := by
  unfold maxLen at hl
  have HX := Lib.hid hx
  have HY := Lib.hid hy
  clear hx hy
  go_enter Try.func19, Try.ntmps19
  go_wp2
  go_loopg [5] (n) (fun gg i wr => ∃ k : Nat, k ≤ n ∧ n - k ≤ gg ∧ i = .int .i64 k ∧ Aside (Drew w wr))
  case atStart => exact ⟨0, Nat.zero_le _, Nat.le_refl _, rfl, Drew.refl _⟩
  case round =>
    obtain ⟨k, hk, hg, rfl, hd⟩ := hrel
    by_cases hlt : k < n
    · obtain ⟨b, o, rfl, _, hlb, hc⟩ := HX.out (by have := hn.out; omega)
      obtain ⟨b', o', rfl, _, hlb', hc'⟩ := HY.out (by have := hn.out; omega)
      have hdb := hd.out.below (w.heap.size)
      have x0 := (hdb.cell (p := ⟨b, o + k * 2 + 0, none⟩) hlb).trans (hc k 0 (by have := hn.out; omega) (by omega))
      have x1 := (hdb.cell (p := ⟨b, o + k * 2 + 1, none⟩) hlb).trans (hc k 1 (by have := hn.out; omega) (by omega))
      have y0 := (hdb.cell (p := ⟨b', o' + k * 2 + 0, none⟩) hlb').trans (hc' k 0 (by have := hn.out; omega) (by omega))
      have y1 := (hdb.cell (p := ⟨b', o' + k * 2 + 1, none⟩) hlb').trans (hc' k 1 (by have := hn.out; omega) (by omega))
      clear hc hc' hdb
      generalize xs[k]?.getD R.d = x at x0 x1 y0 y1
      obtain ⟨p0, p1⟩ := x
      simp only [R.cell, Nat.add_zero, if_true, Nat.one_ne_zero, if_false] at x0 x1 y0 y1
      have hltz : (k : Int) < (n : Int) := by omega
      have hk0 : (0 : Int) ≤ (k : Int) := by omega
      go_wp2_with fail
      go_quiet (fail)
      go_wp2
      go_roundg (n - (k + 1))
      case measure => omega
      case rel => exact ⟨k + 1, by omega, by omega, by go_num, (by obtain ⟨m, hm⟩ := hd.out; exact ⟨m + _, by rw [hm]; exact (World.drewN_drewN _ _ _)⟩)⟩
    · have hltz : ¬ (k : Int) < (n : Int) := by omega
      go_wp2
      go_ret
      exact ⟨rfl, hd.out⟩

set_option maxHeartbeats 1000000 in
theorem states_self (lo1 lo2 : Nat) (A1 : Option Addr) (c1 : Nat) (A2 : Option Addr) (n c2 : Nat) (xs : List R) (w : World) (hx : Ranges w lo1 A1 xs) (hy : Ranges w lo2 A2 xs) (hn : Aside (xs.length = n)) (hl : n ≤ maxLen) :
    Calls Try.prog 35 #[.slice A1 n c1, .slice A2 n c2] w fun e w' => e = .returned (.bool true) ∧ Drew w w' := by
  unfold maxLen at hl
  have HX := Lib.hid hx
  have HY := Lib.hid hy
  clear hx hy
  go_enter Try.func35, Try.ntmps35
  go_wp2
  go_loopg [5] (n) (fun gg i wr => ∃ k : Nat, k ≤ n ∧ n - k ≤ gg ∧ i = .int .i64 k ∧ Aside (Drew w wr))
  case atStart => exact ⟨0, Nat.zero_le _, Nat.le_refl _, rfl, Drew.refl _⟩
  case round =>
    obtain ⟨k, hk, hg, rfl, hd⟩ := hrel
    by_cases hlt : k < n
    · obtain ⟨b, o, rfl, _, hlb, hc⟩ := HX.out (by have := hn.out; omega)
      obtain ⟨b', o', rfl, _, hlb', hc'⟩ := HY.out (by have := hn.out; omega)
      have hdb := hd.out.below (w.heap.size)
      have x0 := (hdb.cell (p := ⟨b, o + k * 2 + 0, none⟩) hlb).trans (hc k 0 (by have := hn.out; omega) (by omega))
      have x1 := (hdb.cell (p := ⟨b, o + k * 2 + 1, none⟩) hlb).trans (hc k 1 (by have := hn.out; omega) (by omega))
      have y0 := (hdb.cell (p := ⟨b', o' + k * 2 + 0, none⟩) hlb').trans (hc' k 0 (by have := hn.out; omega) (by omega))
      have y1 := (hdb.cell (p := ⟨b', o' + k * 2 + 1, none⟩) hlb').trans (hc' k 1 (by have := hn.out; omega) (by omega))
      clear hc hc' hdb
      generalize xs[k]?.getD R.d = x at x0 x1 y0 y1
      obtain ⟨p0, p1⟩ := x
      simp only [R.cell, Nat.add_zero, if_true, Nat.one_ne_zero, if_false] at x0 x1 y0 y1
      have hltz : (k : Int) < (n : Int) := by omega
      have hk0 : (0 : Int) ≤ (k : Int) := by omega
      go_wp2_with fail
      go_quiet (fail)
      go_wp2
      go_roundg (n - (k + 1))
      case measure => omega
      case rel => exact ⟨k + 1, by omega, by omega, by go_num, (by obtain ⟨m, hm⟩ := hd.out; exact ⟨m + _, by rw [hm]; exact (World.drewN_drewN _ _ _)⟩)⟩
    · have hltz : ¬ (k : Int) < (n : Int) := by omega
      go_wp2
      go_ret
      exact ⟨rfl, hd.out⟩


set_option maxHeartbeats 400000 in
theorem long_any (n : Nat) (w : World) :
    Calls Try.prog 14 #[.int .i64 n] w fun e w' => e = .returned (.bool (decide ((150 < n ∧ n ≤ 1000) ∨ 1100 < n))) ∧ w = w' := by
  by_cases h1 : 150 < n
  · have h1z : (150 : Int) < (n : Int) := by omega
    by_cases h2 : n ≤ 1000
    · have h2z : (n : Int) ≤ (1000 : Int) := by omega
      rw [show decide ((150 < n ∧ n ≤ 1000) ∨ 1100 < n) = true by simp; omega]
      clear h1 h2
      go_enter Try.func14, Try.ntmps14
      go_wp2
      go_ret
      exact ⟨rfl, rfl⟩
    · have h2z : ¬ (n : Int) ≤ (1000 : Int) := by omega
      by_cases h3 : 1100 < n
      · have h3z : (1100 : Int) < (n : Int) := by omega
        rw [show decide ((150 < n ∧ n ≤ 1000) ∨ 1100 < n) = true by simp; omega]
        clear h1 h2 h3
        go_enter Try.func14, Try.ntmps14
        go_wp2
        go_ret
        exact ⟨rfl, rfl⟩
      · have h3z : ¬ (1100 : Int) < (n : Int) := by omega
        rw [show decide ((150 < n ∧ n ≤ 1000) ∨ 1100 < n) = false by simp; omega]
        clear h1 h2 h3
        go_enter Try.func14, Try.ntmps14
        go_wp2
        go_ret
        exact ⟨rfl, rfl⟩
  · have h1z : ¬ (150 : Int) < (n : Int) := by omega
    have h3z : ¬ (1100 : Int) < (n : Int) := by omega
    rw [show decide ((150 < n ∧ n ≤ 1000) ∨ 1100 < n) = false by simp; omega]
    clear h1
    go_enter Try.func14, Try.ntmps14
    go_wp2
    go_ret
    exact ⟨rfl, rfl⟩

end Go.Proofs.Ytlkecgjpmnganaa
