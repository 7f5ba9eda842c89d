/- Contracts: slices.IndexFunc and ContainsFunc at kinds of hours and at what was seen. -/
import Derived.Test.YtlkecgjpmnganaaLib
set_option linter.unusedSimpArgs false
set_option linter.unusedVariables false
namespace Go.Proofs.Ytlkecgjpmnganaa
open Go.RowKit Go.Shelf

set_option maxHeartbeats 400000 in
theorem indexFunc_HourKind (g : FuncId) (cap : Array Value) (p : Int → Bool) (lo : Nat) (A : Option Addr) (n c : Nat) (xs : List Int) (w : World)
    (eg : Enters Try.prog g) (hx : Ints w lo A xs) (hn : Aside (xs.length = n)) (hl : n ≤ maxLen) (hp : PredB Try.prog g cap (Value.int .i64) p w) :
    Calls Try.prog 88 #[.slice A n c, .func (.func g) #[] cap] w fun e w' => e = .returned (.int .i64 (firstIdx p xs)) ∧ Below w.heap.size w w' := by
  unfold maxLen at hl
  unfold Enters at eg
  go_enter Try.func88, Try.ntmps88
  go_wp2
  go_loopg [5, 8] (n) (fun gg _ i wr => ∃ k : Nat, k ≤ n ∧ n - k ≤ gg ∧ i = .int .i64 k ∧ Aside (∀ j, j < k → p (xs[j]?.getD 0) = false) ∧ Aside (Below w.heap.size w wr))
  case atStart => exact ⟨0, Nat.zero_le _, Nat.le_refl _, rfl, fun j hj => absurd hj (Nat.not_lt_zero _), Below.refl _ _⟩
  case round =>
    obtain ⟨k, hk, hg, rfl, hno, hb⟩ := hrel
    by_cases hlt : k < n
    · obtain ⟨b, o, rfl, _, hlb, hc⟩ := hx (by have := hn.out; omega)
      have hck := (hb.out.cell (p := ⟨b, o + k, none⟩) hlb).trans (hc k (by have := hn.out; omega))
      have hltz : (k : Int) < (n : Int) := by omega
      have hcall := hp (xs[k]?.getD 0) wr hb.out
      clear hc hp hx
      generalize hxk : xs[k]?.getD 0 = x at hck hcall
      have Hxk : Aside (xs[k]?.getD 0 = x) := hxk
      clear hxk
      cases hq : p x with
      | true =>
        rw [hq] at hcall
        go_wp2_with (go_at_fn g; refine hcall.mono ?_; rintro e w' ⟨rfl, hb'⟩)
        go_ret
        refine ⟨?_, hb.out.trans (hb'.mono hb.out.size)⟩
        rw [firstIdx_hit p 0 xs k (by have := hn.out; omega) (by rw [Hxk.out]; exact hq) hno.out]
        rfl
      | false =>
        rw [hq] at hcall
        go_wp2_with (go_at_fn g; refine hcall.mono ?_; rintro e w' ⟨rfl, hb'⟩)
        go_roundg (n - (k + 1))
        case measure => omega
        case rel =>
          refine ⟨k + 1, by omega, by omega, by go_num, (show Aside _ from fun j hj => ?_), hb.out.trans (hb'.mono hb.out.size)⟩
          by_cases e : j = k
          · subst e; rw [Hxk.out]; exact hq
          · exact hno.out j (by omega)
    · have hltz : ¬ (k : Int) < (n : Int) := by omega
      have hke : k = n := by omega
      subst hke
      go_wp2
      go_ret
      exact ⟨by rw [firstIdx_miss p 0 xs (by rw [hn.out]; exact hno.out)]; rfl, hb.out⟩

set_option maxHeartbeats 400000 in
theorem containsFunc_HourKind (g : FuncId) (cap : Array Value) (p : Int → Bool) (lo : Nat) (A : Option Addr) (n c : Nat) (xs : List Int) (w : World)
    (eg : Enters Try.prog g) (hx : Ints w lo A xs) (hn : Aside (xs.length = n)) (hl : n ≤ maxLen) (hp : PredB Try.prog g cap (Value.int .i64) p w) :
    Calls Try.prog 61 #[.slice A n c, .func (.func g) #[] cap] w fun e w' => e = .returned (.bool (xs.any p)) ∧ Below w.heap.size w w' := by
  have hcall := indexFunc_HourKind g cap p lo A n c xs w eg hx hn hl hp
  have hany := firstIdx_ge p xs
  generalize xs.any p = r at hany
  clear eg hx hp hn
  generalize firstIdx p xs = m at hcall hany
  subst hany
  go_enter Try.func61, Try.ntmps61
  go_wp2_with (go_at_call 88; refine hcall.mono ?_; rintro e w' ⟨rfl, hb'⟩)
  go_ret
  exact ⟨rfl, hb'⟩

set_option maxHeartbeats 400000 in
theorem indexFunc_Seen (g : FuncId) (cap : Array Value) (p : Int → Bool) (lo : Nat) (A : Option Addr) (n c : Nat) (xs : List Int) (w : World)
    (eg : Enters Try.prog g) (hx : Ints w lo A xs) (hn : Aside (xs.length = n)) (hl : n ≤ maxLen) (hp : PredB Try.prog g cap (Value.int .i64) p w) :
    Calls Try.prog 92 #[.slice A n c, .func (.func g) #[] cap] w fun e w' => e = .returned (.int .i64 (firstIdx p xs)) ∧ Below w.heap.size w w' := by
  unfold maxLen at hl
  unfold Enters at eg
  go_enter Try.func92, Try.ntmps92
  go_wp2
  go_loopg [5, 8] (n) (fun gg _ i wr => ∃ k : Nat, k ≤ n ∧ n - k ≤ gg ∧ i = .int .i64 k ∧ Aside (∀ j, j < k → p (xs[j]?.getD 0) = false) ∧ Aside (Below w.heap.size w wr))
  case atStart => exact ⟨0, Nat.zero_le _, Nat.le_refl _, rfl, fun j hj => absurd hj (Nat.not_lt_zero _), Below.refl _ _⟩
  case round =>
    obtain ⟨k, hk, hg, rfl, hno, hb⟩ := hrel
    by_cases hlt : k < n
    · obtain ⟨b, o, rfl, _, hlb, hc⟩ := hx (by have := hn.out; omega)
      have hck := (hb.out.cell (p := ⟨b, o + k, none⟩) hlb).trans (hc k (by have := hn.out; omega))
      have hltz : (k : Int) < (n : Int) := by omega
      have hcall := hp (xs[k]?.getD 0) wr hb.out
      clear hc hp hx
      generalize hxk : xs[k]?.getD 0 = x at hck hcall
      have Hxk : Aside (xs[k]?.getD 0 = x) := hxk
      clear hxk
      cases hq : p x with
      | true =>
        rw [hq] at hcall
        go_wp2_with (go_at_fn g; refine hcall.mono ?_; rintro e w' ⟨rfl, hb'⟩)
        go_ret
        refine ⟨?_, hb.out.trans (hb'.mono hb.out.size)⟩
        rw [firstIdx_hit p 0 xs k (by have := hn.out; omega) (by rw [Hxk.out]; exact hq) hno.out]
        rfl
      | false =>
        rw [hq] at hcall
        go_wp2_with (go_at_fn g; refine hcall.mono ?_; rintro e w' ⟨rfl, hb'⟩)
        go_roundg (n - (k + 1))
        case measure => omega
        case rel =>
          refine ⟨k + 1, by omega, by omega, by go_num, (show Aside _ from fun j hj => ?_), hb.out.trans (hb'.mono hb.out.size)⟩
          by_cases e : j = k
          · subst e; rw [Hxk.out]; exact hq
          · exact hno.out j (by omega)
    · have hltz : ¬ (k : Int) < (n : Int) := by omega
      have hke : k = n := by omega
      subst hke
      go_wp2
      go_ret
      exact ⟨by rw [firstIdx_miss p 0 xs (by rw [hn.out]; exact hno.out)]; rfl, hb.out⟩

set_option maxHeartbeats 400000 in
theorem containsFunc_Seen (g : FuncId) (cap : Array Value) (p : Int → Bool) (lo : Nat) (A : Option Addr) (n c : Nat) (xs : List Int) (w : World)
    (eg : Enters Try.prog g) (hx : Ints w lo A xs) (hn : Aside (xs.length = n)) (hl : n ≤ maxLen) (hp : PredB Try.prog g cap (Value.int .i64) p w) :
    Calls Try.prog 77 #[.slice A n c, .func (.func g) #[] cap] w fun e w' => e = .returned (.bool (xs.any p)) ∧ Below w.heap.size w w' := by
  have hcall := indexFunc_Seen g cap p lo A n c xs w eg hx hn hl hp
  have hany := firstIdx_ge p xs
  generalize xs.any p = r at hany
  clear eg hx hp hn
  generalize firstIdx p xs = m at hcall hany
  subst hany
  go_enter Try.func77, Try.ntmps77
  go_wp2_with (go_at_call 92; refine hcall.mono ?_; rintro e w' ⟨rfl, hb'⟩)
  go_ret
  exact ⟨rfl, hb'⟩



end Go.Proofs.Ytlkecgjpmnganaa
