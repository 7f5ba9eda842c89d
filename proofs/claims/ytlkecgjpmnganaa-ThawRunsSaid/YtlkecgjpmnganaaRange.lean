/- Contracts: ranges (span.isRange, made, over, Scale, Times, Over ..). -/
import Derived.Test.YtlkecgjpmnganaaWithin
import Derived.Test.YtlkecgjpmnganaaRatio
import Derived.Outline
set_option linter.unusedSimpArgs false
set_option linter.unusedVariables false
namespace Go.Proofs.Ytlkecgjpmnganaa
open Go.RowKit Go.Shelf

/-- a range -/
structure R where
  lo : Int
  hi : Int
  deriving DecidableEq

def R.val (a : R) : Value := .agg #[.int .i64 a.lo, .int .i64 a.hi]
def R.cell (a : R) (i : Nat) : Value := if i = 0 then .int .i64 a.lo else .int .i64 a.hi
def R.d : R := ⟨0, 0⟩

abbrev Ranges := Elems 2 R.cell R.d

/-- a block that reads as one, two or three ints -/
theorem Ints.of1 {W : World} {b : Nat} {x : Int} (h0 : W.cell? ⟨b, 0, none⟩ = some (.int .i64 x)) (hb : b < W.heap.size) : Ints W 0 (some ⟨b, 0, none⟩) [x] := by
  intro _
  refine ⟨_, _, rfl, Nat.zero_le _, hb, fun j hj => ?_⟩
  obtain rfl : j = 0 := by simpa using hj
  simpa using h0
theorem Ints.of2 {W : World} {b : Nat} {x y : Int} (h0 : W.cell? ⟨b, 0, none⟩ = some (.int .i64 x)) (h1 : W.cell? ⟨b, 1, none⟩ = some (.int .i64 y)) (hb : b < W.heap.size) : Ints W 0 (some ⟨b, 0, none⟩) [x, y] := by
  intro _
  refine ⟨_, _, rfl, Nat.zero_le _, hb, fun j hj => ?_⟩
  have : j = 0 ∨ j = 1 := by simp at hj; omega
  rcases this with rfl | rfl
  · simpa using h0
  · simpa using h1
theorem Ints.of3 {W : World} {b : Nat} {x y z : Int} (h0 : W.cell? ⟨b, 0, none⟩ = some (.int .i64 x)) (h1 : W.cell? ⟨b, 1, none⟩ = some (.int .i64 y)) (h2 : W.cell? ⟨b, 2, none⟩ = some (.int .i64 z)) (hb : b < W.heap.size) : Ints W 0 (some ⟨b, 0, none⟩) [x, y, z] := by
  intro _
  refine ⟨_, _, rfl, Nat.zero_le _, hb, fun j hj => ?_⟩
  have : j = 0 ∨ j = 1 ∨ j = 2 := by simp at hj; omega
  rcases this with rfl | rfl | rfl
  · simpa using h0
  · simpa using h1
  · simpa using h2

theorem one_le : 1 ≤ maxLen := by unfold maxLen; omega
theorem two_le : 2 ≤ maxLen := by unfold maxLen; omega
theorem three_le : 3 ≤ maxLen := by unfold maxLen; omega

def maxSpan : Int := 1000000000000000
/-- a valid range -/
def okR (a : R) : Bool := btw (-1000000000000000) 1000000000000000 [a.lo, a.hi] && decide (a.lo ≤ a.hi)

theorem okR_iff (a : R) : okR a = true ↔ -1000000000000000 ≤ a.lo ∧ a.lo ≤ a.hi ∧ a.hi ≤ 1000000000000000 := by
  simp [okR, btw]; omega

theorem dec_lt (a b : Int) : decide (b < a) = !decide (a ≤ b) := by
  by_cases h : a ≤ b
  · simp [h]
  · simp [h]; omega

set_option maxHeartbeats 400000 in
theorem isRange_lit (a b : Int) (w : World) :
    Calls Try.prog 101 #[.agg #[.int .i64 a, .int .i64 b]] w fun e w' => e = .returned (.bool (!okR ⟨a, b⟩)) ∧ Below w.heap.size w w' := by
  have e1 : okR ⟨a, b⟩ = (btw (-1000000000000000) 1000000000000000 [a, b] && decide (a ≤ b)) := rfl
  have hW := fun (lo hi : Int) (A : Option Addr) (W : World) h => span_within lo hi 0 A 2 2 [a, b] W h rfl two_le
  generalize okR ⟨a, b⟩ = r at e1
  go_enter Try.func101, Try.ntmps101
  go_wp2_with fail
  refine (hW _ _ _ _ (Ints.of2 (by simp [go_sem]) (by simp [go_sem]) (by simp))).mono ?_
  rintro e w1 ⟨rfl, hb⟩
  obtain ⟨hc, hf⟩ := bcell hb
  generalize btw (-1000000000000000) 1000000000000000 [a, b] = q at e1
  cases q with
  | false =>
    go_wp2
    go_ret
    exact ⟨by simp [e1], (by (try show Below _ _ _); repeat (first | (with_reducible refine Below.setCell ?_ (by first | omega | (simp <;> omega)) _) | (with_reducible refine Below.alloc ?_ (by first | omega | (simp <;> omega)) _) | (with_reducible refine Below.drew ?_) | (with_reducible exact Below.refl _ _) | (with_reducible refine below_call ?_ (by assumption) (by first | omega | (simp <;> omega))) | (with_reducible refine below_call ?_ (Drew.below (by assumption) _) (by first | omega | (simp <;> omega)))))⟩
  | true =>
    go_wp2
    go_ret
    exact ⟨by rw [e1]; simp [dec_lt a b], (by (try show Below _ _ _); repeat (first | (with_reducible refine Below.setCell ?_ (by first | omega | (simp <;> omega)) _) | (with_reducible refine Below.alloc ?_ (by first | omega | (simp <;> omega)) _) | (with_reducible refine Below.drew ?_) | (with_reducible exact Below.refl _ _) | (with_reducible refine below_call ?_ (by assumption) (by first | omega | (simp <;> omega))) | (with_reducible refine below_call ?_ (Drew.below (by assumption) _) (by first | omega | (simp <;> omega)))))⟩

theorem isRange_pred (w : World) : PredB Try.prog 101 #[] R.val (fun a => !okR a) w := by
  rintro ⟨a, b⟩ W _
  exact isRange_lit a b W

set_option maxHeartbeats 400000 in
theorem indexFunc_Range (g : FuncId) (cap : Array Value) (p : R → Bool) (lo : Nat) (A : Option Addr) (n c : Nat) (xs : List R) (w : World)
    (eg : Enters Try.prog g) (hx : Ranges w lo A xs) (hn : Aside (xs.length = n)) (hl : n ≤ maxLen) (hp : PredB Try.prog g cap R.val p w) :
    Calls Try.prog 87 #[.slice A n c, .func (.func g) #[] cap] w fun e w' => e = .returned (.int .i64 (firstIdx p xs)) ∧ Below w.heap.size w w' := by
  unfold maxLen at hl
  unfold Enters at eg
  go_enter Try.func87, Try.ntmps87
  go_wp2
  go_loopg [5, 8] (n) (fun gg _ i wr => ∃ k : Nat, k ≤ n ∧ n - k ≤ gg ∧ i = .int .i64 k ∧ Aside (∀ j, j < k → p (xs[j]?.getD R.d) = false) ∧ Aside (Below w.heap.size w wr))
  case atStart => exact ⟨0, Nat.zero_le _, Nat.le_refl _, rfl, fun j hj => absurd hj (Nat.not_lt_zero _), Below.refl _ _⟩
  case round =>
    obtain ⟨k, hk, hg, rfl, hno, hb⟩ := hrel
    by_cases hlt : k < n
    · obtain ⟨b, o, rfl, _, hlb, hc⟩ := hx (by have := hn.out; omega)
      have hck0 := (hb.out.cell (p := ⟨b, o + k * 2 + 0, none⟩) hlb).trans (hc k 0 (by have := hn.out; omega) (by omega))
      have hck1 := (hb.out.cell (p := ⟨b, o + k * 2 + 1, none⟩) hlb).trans (hc k 1 (by have := hn.out; omega) (by omega))
      have hltz : (k : Int) < (n : Int) := by omega
      have hcall := hp (xs[k]?.getD R.d) wr hb.out
      clear hc hp hx
      generalize hxk : xs[k]?.getD R.d = x at hck0 hck1 hcall
      have Hxk : Aside (xs[k]?.getD R.d = x) := hxk
      clear hxk
      simp only [R.cell, R.val, Nat.add_zero, if_true, Nat.one_ne_zero, if_false] at hck0 hck1 hcall
      cases hq : p x with
      | true =>
        rw [hq] at hcall
        go_wp2_with (go_at_fn g; refine hcall.mono ?_; rintro e w' ⟨rfl, hb'⟩)
        go_ret
        refine ⟨?_, hb.out.trans (hb'.mono hb.out.size)⟩
        rw [firstIdx_hit p R.d xs k (by have := hn.out; omega) (by rw [Hxk.out]; exact hq) hno.out]
        rfl
      | false =>
        rw [hq] at hcall
        go_wp2_with (go_at_fn g; refine hcall.mono ?_; rintro e w' ⟨rfl, hb'⟩)
        go_roundg (n - (k + 1))
        case measure => omega
        case rel =>
          refine ⟨k + 1, by omega, by omega, by go_num, (show Aside _ from fun j hj => ?_), hb.out.trans (hb'.mono hb.out.size)⟩
          by_cases e : j = k
          · subst e; rw [Hxk.out]; exact hq
          · exact hno.out j (by omega)
    · have hltz : ¬ (k : Int) < (n : Int) := by omega
      have hke : k = n := by omega
      subst hke
      go_wp2
      go_ret
      exact ⟨by rw [firstIdx_miss p R.d xs (by rw [hn.out]; exact hno.out)]; rfl, hb.out⟩

set_option maxHeartbeats 400000 in
theorem containsFunc_Range (g : FuncId) (cap : Array Value) (p : R → Bool) (lo : Nat) (A : Option Addr) (n c : Nat) (xs : List R) (w : World)
    (eg : Enters Try.prog g) (hx : Ranges w lo A xs) (hn : Aside (xs.length = n)) (hl : n ≤ maxLen) (hp : PredB Try.prog g cap R.val p w) :
    Calls Try.prog 54 #[.slice A n c, .func (.func g) #[] cap] w fun e w' => e = .returned (.bool (xs.any p)) ∧ Below w.heap.size w w' := by
  have hcall := indexFunc_Range g cap p lo A n c xs w eg hx hn hl hp
  have hany := firstIdx_ge p xs
  generalize xs.any p = r at hany
  clear eg hx hp hn
  generalize firstIdx p xs = m at hcall hany
  subst hany
  go_enter Try.func54, Try.ntmps54
  go_wp2_with (go_at_call 87; refine hcall.mono ?_; rintro e w' ⟨rfl, hb'⟩)
  go_ret
  exact ⟨rfl, hb'⟩

theorem isRange_any_eq (xs : List R) : (!xs.any fun a => !okR a) = xs.all okR := by
  induction xs with
  | nil => rfl
  | cons x l ih => simp only [List.any_cons, List.all_cons, Bool.not_or, Bool.not_not] at ih ⊢; rw [ih]

set_option maxHeartbeats 400000 in
theorem isRange_any (lo : Nat) (A : Option Addr) (n c : Nat) (xs : List R) (w : World) (hx : Ranges w lo A xs) (hn : Aside (xs.length = n)) (hl : n ≤ maxLen) :
    Calls Try.prog 98 #[.slice A n c] w fun e w' => e = .returned (.bool (xs.all okR)) ∧ Below w.heap.size w w' := by
  have eg : Enters Try.prog 101 := enters_of Try.func101 (by kernel_rfl) rfl
  have hcall := containsFunc_Range 101 #[] (fun a => !okR a) lo A n c xs w eg hx hn hl (isRange_pred w)
  have e := isRange_any_eq xs
  generalize xs.all okR = r at e
  generalize (xs.any fun a => !okR a) = q at e hcall
  subst e
  clear hx hn eg
  go_enter Try.func98, Try.ntmps98
  go_wp2_with (go_at_call 54; refine hcall.mono ?_; rintro e w' ⟨rfl, hb'⟩)
  go_ret
  exact ⟨rfl, hb'⟩

end Go.Proofs.Ytlkecgjpmnganaa
