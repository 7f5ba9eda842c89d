/- Contracts: sort.Search over an abstract test; (span.table).ends. -/
import Derived.Test.YtfohdafijfjefaaWhere
import Derived.Test.YtfohdafijfjefaaMM
import Derived.Test.YtfohdafijfjefaaHoldsFn
set_option linter.unusedSimpArgs false
set_option linter.unusedVariables false
namespace Go.Proofs.Ytfohdafijfjefaa
open Go.RowKit Go.Shelf
attribute [local go_sem ↓] Go.wp_at_zero Go.wp_at_succ

/-- a test that holds from F on -/
def SrchB (P : Program) (g : FuncId) (cap : Array Value) (n F : Nat) (w : World) : Prop :=
  ∀ (i : Nat) (W : World), i < n → Below w.heap.size w W → Calls P g (#[.int .i64 (i : Int)] ++ cap) W fun e W' => e = .returned (.bool (decide (F ≤ i))) ∧ Below W.heap.size W W'

set_option maxRecDepth 100000 in
set_option maxHeartbeats 1000000 in
theorem search_any (g : FuncId) (cap : Array Value) (n F : Nat) (w : World) (eg : Enters Try.prog g) (hF : F ≤ n) (hn : n ≤ 1000000000) (hp : SrchB Try.prog g cap n F w) :
    Calls Try.prog 145 #[.int .i64 (n : Int), .func (.func g) #[] cap] w fun e w' => e = .returned (.int .i64 (F : Int)) ∧ Below w.heap.size w w' := by
  unfold Enters at eg
  have HP := Lib.hid hp
  clear hp
  go_enter Try.func145, Try.ntmps145
  go_wp2
  go_loopg [5, 6] (n + 1) (fun gg s5 s6 wr => ∃ i j : Nat, s5 = .int .i64 (i : Int) ∧ s6 = .int .i64 (j : Int) ∧ i ≤ F ∧ F ≤ j ∧ j ≤ n ∧ j - i ≤ gg ∧ Aside (Below w.heap.size w wr))
  case atStart => exact ⟨0, n, rfl, rfl, Nat.zero_le _, hF, Nat.le_refl _, by omega, Below.refl _ _⟩
  case round =>
    obtain ⟨i, j, rfl, rfl, hi, hj, hjn, hg, hB⟩ := hrel
    have hbs := hB.out.size
    by_cases hlt : i < j
    · have hltz : (i : Int) < (j : Int) := by omega
      have hm : i ≤ (i + j) / 2 ∧ (i + j) / 2 < j := by omega
      have hcall := fun W h => HP.out ((i + j) / 2) W (by omega) h
      have e : (((i + j) / 2 : Nat) : Int) = ((i : Int) + (j : Int)) / 2 := by omega
      have E := Lib.hid e
      rw [e] at hcall
      clear e
      have hm0 : 0 ≤ ((i : Int) + (j : Int)) / 2 ∧ ((i : Int) + (j : Int)) / 2 ≤ 1000000000 := by omega
      by_cases hF2 : F ≤ (i + j) / 2
      · rw [show decide (F ≤ (i + j) / 2) = true from decide_eq_true hF2] at hcall
        go_wp2_with fail
        refine (hcall _ hB.out).mono ?_
        rintro e w1 ⟨rfl, hb1⟩
        go_wp2
        go_roundg ((i + j) / 2 - i)
        case measure => omega
        case rel => exact ⟨i, (i + j) / 2, rfl, by rw [E.out], hi, hF2, by omega, Nat.le_refl _, below_call hB.out hb1 (by omega)⟩
      · rw [show decide (F ≤ (i + j) / 2) = false from decide_eq_false hF2] at hcall
        go_wp2_with fail
        refine (hcall _ hB.out).mono ?_
        rintro e w1 ⟨rfl, hb1⟩
        go_wp2
        go_roundg (j - ((i + j) / 2 + 1))
        case measure => omega
        case rel => exact ⟨(i + j) / 2 + 1, j, by rw [← E.out]; go_num, rfl, by omega, hj, hjn, Nat.le_refl _, below_call hB.out hb1 (by omega)⟩
    · have hltz : ¬ (i : Int) < (j : Int) := by omega
      obtain rfl : i = F := by omega
      go_wp2
      go_ret
      exact ⟨rfl, hB.out⟩

set_option maxHeartbeats 400000 in
theorem ends_any (lo : Nat) (A : Option Addr) (n c : Nat) (t : List R) (w : World) (hx : Ranges w lo A t) (hn : Aside (t.length = n)) (h1 : 1 ≤ n) (hl : n ≤ maxLen) :
    Calls Try.prog 115 #[.slice A n c] w fun e w' => e = .returned (.tuple #[.int .i64 (t[0]?.getD R.d).lo, .int .i64 (t[n - 1]?.getD R.d).lo]) ∧ Below w.heap.size w w' := by
  unfold maxLen at hl
  obtain ⟨b, o, rfl, _, hlb, hc⟩ := hx (by have := hn.out; omega)
  obtain ⟨m, rfl⟩ : ∃ m, n = m + 1 := ⟨n - 1, by omega⟩
  have x0 := hc 0 0 (by have := hn.out; omega) (by omega)
  have x1 := hc m 0 (by have := hn.out; omega) (by omega)
  simp only [R.cell, Nat.zero_mul, Nat.add_zero, if_true, Nat.add_sub_cancel] at x0 x1 ⊢
  generalize (t[0]?.getD R.d).lo = e0 at *
  generalize (t[m]?.getD R.d).lo = e1 at *
  have hm0 : (0 : Int) ≤ (m : Int) := by omega
  have hw : IntKind.i64.wrap (m : Int) = (m : Int) := by rw [IntKind.wrap_i64]; omega
  have hz : (0 : Int) < (m : Int) + 1 := by omega
  have hz2 : (m : Int) < (m : Int) + 1 := by omega
  clear hc hx
  go_enter Try.func115, Try.ntmps115
  go_wp2_with fail
  go_quiet (fail)
  go_wp2
  go_ret2
  exact ⟨rfl, below_drewN' ((by (try show Below _ _ _); repeat (first | (with_reducible refine Below.setCell ?_ (by first | omega | (simp <;> omega)) _) | (with_reducible refine Below.alloc ?_ (by first | omega | (simp <;> omega)) _) | (with_reducible refine Below.drew ?_) | (with_reducible exact Below.refl _ _) | (with_reducible exact Below.refl _ _) | (with_reducible refine below_call ?_ (by assumption) (by first | omega | (simp <;> omega))) | (with_reducible refine below_call ?_ (Drew.below (by assumption) _) (by first | omega | (simp <;> omega)))))) _⟩

/-- the row in front of a place -/
def Seg (t : List R) (x : Int) (k : Nat) : Prop := k + 1 < t.length ∧ (t[k]?.getD R.d).lo ≤ x ∧ (x < (t[k + 1]?.getD R.d).lo ∨ (k + 2 = t.length ∧ x ≤ (t[k + 1]?.getD R.d).lo))

/-- how many rows do not lie behind a place -/
def cntF (t : List R) (x : Int) (k : Nat) : Nat := if k + 2 = t.length ∧ (t[k + 1]?.getD R.d).lo ≤ x then k + 2 else k + 1

theorem rows_mono {t : List R} (h : rowsOk t t.length) : ∀ i j, i < j → j < t.length → (t[i]?.getD R.d).lo < (t[j]?.getD R.d).lo := by
  intro i j hij hj
  induction j with
  | zero => omega
  | succ j ih =>
    have h1 := (h (j + 1) hj).2 (by omega)
    simp only [Nat.add_sub_cancel] at h1
    rcases Nat.lt_or_ge i j with h2 | h2
    · exact Int.lt_trans (ih h2 (by omega)) h1
    · obtain rfl : i = j := by omega
      exact h1

theorem cnt_is {t : List R} {x : Int} {k : Nat} (h : rowsOk t t.length) (hs : Seg t x k) : cntF t x k ≤ t.length ∧ ∀ i, i < t.length → (cntF t x k ≤ i ↔ x < (t[i]?.getD R.d).lo) := by
  obtain ⟨h1, h2, h3⟩ := hs
  have hm := rows_mono h
  unfold cntF
  by_cases hc : k + 2 = t.length ∧ (t[k + 1]?.getD R.d).lo ≤ x
  · rw [if_pos hc]
    refine ⟨by omega, fun i hi => ⟨fun h4 => by omega, fun h4 => ?_⟩⟩
    rcases Nat.lt_or_ge i (k + 1) with h5 | h5
    · have := hm i (k + 1) h5 h1; omega
    · obtain rfl : i = k + 1 := by omega
      omega
  · rw [if_neg hc]
    refine ⟨by omega, fun i hi => ⟨fun h4 => ?_, fun h4 => ?_⟩⟩
    · rcases Nat.lt_or_ge (k + 1) i with h5 | h5
      · have := hm (k + 1) i h5 hi; omega
      · obtain rfl : i = k + 1 := by omega
        omega
    · rcases Nat.lt_or_ge i (k + 1) with h5 | h5
      · rcases Nat.lt_or_ge i k with h6 | h6
        · have := hm i k h6 (by omega); omega
        · obtain rfl : i = k := by omega
          omega
      · exact h5

theorem cnt_min {t : List R} {x : Int} {k : Nat} (hs : Seg t x k) : min (cntF t x k : Int) ((t.length : Int) - 1) = (k : Int) + 1 := by
  obtain ⟨h1, h2, h3⟩ := hs
  unfold cntF
  split <;> omega

theorem seg_unique {t : List R} {x : Int} {k k' : Nat} (h : rowsOk t t.length) (hs : Seg t x k) (hs' : Seg t x k') : k = k' := by
  have hm := rows_mono h
  obtain ⟨h1, h2, h3⟩ := hs
  obtain ⟨h1', h2', h3'⟩ := hs'
  rcases Nat.lt_trichotomy k k' with h4 | h4 | h4
  · rcases Nat.lt_or_ge (k + 1) k' with h5 | h5
    · have := hm (k + 1) k' h5 (by omega); omega
    · obtain rfl : k + 1 = k' := by omega
      omega
  · exact h4
  · rcases Nat.lt_or_ge (k' + 1) k with h5 | h5
    · have := hm (k' + 1) k h5 (by omega); omega
    · obtain rfl : k' + 1 = k := by omega
      omega

/-- the value on a line -/
def valAt (a b : R) (x : Int) : R := ⟨a.hi + (b.hi - a.hi) * (x - a.lo) / (b.lo - a.lo), a.hi + cdiv ((b.hi - a.hi) * (x - a.lo)) (b.lo - a.lo)⟩

set_option maxHeartbeats 400000 in
theorem at1_any (b o n c : Nat) (x : Int) (bt bx i : Nat) (v : Int) (w : World) (hbt : w.cell? ⟨bt, 0, none⟩ = some (.slice (some ⟨b, o, none⟩) n c)) (hbx : w.cell? ⟨bx, 0, none⟩ = some (.int .i64 x)) (hi : i < n) (hl : n ≤ maxLen) (hc : w.cell? ⟨b, o + i * 2, none⟩ = some (.int .i64 v)) :
    Calls Try.prog 146 #[.int .i64 (i : Int), .pointer (some ⟨bt, 0, none⟩), .pointer (some ⟨bx, 0, none⟩)] w fun e w' => e = .returned (.bool (decide (x < v))) ∧ Below w.heap.size w w' := by
  unfold maxLen at hl
  have hi0 : (0 : Int) ≤ (i : Int) := by omega
  have hin : (i : Int) < (n : Int) := by omega
  go_enter Try.func146, Try.ntmps146
  go_wp2_with fail
  go_quiet (fail)
  go_wp2
  go_ret
  exact ⟨rfl, below_drewN' (Below.refl _ _) _⟩

end Go.Proofs.Ytfohdafijfjefaa
