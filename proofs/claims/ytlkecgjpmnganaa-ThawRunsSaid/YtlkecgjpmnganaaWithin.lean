/- Contracts: slices.IndexFunc and ContainsFunc at int and at structs, and every package's 'within'. -/
import Derived.Test.YtlkecgjpmnganaaLib
set_option linter.unusedSimpArgs false
set_option linter.unusedVariables false
namespace Go.Proofs.Ytlkecgjpmnganaa
open Go.RowKit Go.Shelf

set_option maxHeartbeats 400000 in
theorem indexFunc_int' (g : FuncId) (cap : Array Value) (p : Int → Bool) (lo : Nat) (A : Option Addr) (n c : Nat) (xs : List Int) (w : World)
    (eg : Enters Try.prog g) (hx : Ints w lo A xs) (hn : Aside (xs.length = n)) (hl : n ≤ maxLen) (hp : PredB Try.prog g cap (Value.int .i64) p w) :
    Calls Try.prog 100 #[.slice A n c, .func (.func g) #[] cap] w fun e w' => e = .returned (.int .i64 (firstIdx p xs)) ∧ Below w.heap.size w w' := by
  unfold maxLen at hl
  unfold Enters at eg
  go_enter Try.func100, Try.ntmps100
  go_wp2
  go_loopg [5, 8] (n) (fun gg _ i wr => ∃ k : Nat, k ≤ n ∧ n - k ≤ gg ∧ i = .int .i64 k ∧ Aside (∀ j, j < k → p (xs[j]?.getD 0) = false) ∧ Aside (Below w.heap.size w wr))
  case atStart => exact ⟨0, Nat.zero_le _, Nat.le_refl _, rfl, fun j hj => absurd hj (Nat.not_lt_zero _), Below.refl _ _⟩
  case round =>
    obtain ⟨k, hk, hg, rfl, hno, hb⟩ := hrel
    by_cases hlt : k < n
    · obtain ⟨b, o, rfl, _, hlb, hc⟩ := hx (by have := hn.out; omega)
      have hck := (hb.out.cell (p := ⟨b, o + k, none⟩) hlb).trans (hc k (by have := hn.out; omega))
      have hltz : (k : Int) < (n : Int) := by omega
      have hcall := hp (xs[k]?.getD 0) wr hb.out
      clear hc hp hx
      generalize hxk : xs[k]?.getD 0 = x at hck hcall
      have Hxk : Aside (xs[k]?.getD 0 = x) := hxk
      clear hxk
      cases hq : p x with
      | true =>
        rw [hq] at hcall
        go_wp2_with (go_at_fn g; refine hcall.mono ?_; rintro e w' ⟨rfl, hb'⟩)
        go_ret
        refine ⟨?_, hb.out.trans (hb'.mono hb.out.size)⟩
        rw [firstIdx_hit p 0 xs k (by have := hn.out; omega) (by rw [Hxk.out]; exact hq) hno.out]
        rfl
      | false =>
        rw [hq] at hcall
        go_wp2_with (go_at_fn g; refine hcall.mono ?_; rintro e w' ⟨rfl, hb'⟩)
        go_roundg (n - (k + 1))
        case measure => omega
        case rel =>
          refine ⟨k + 1, by omega, by omega, by go_num, (show Aside _ from fun j hj => ?_), hb.out.trans (hb'.mono hb.out.size)⟩
          by_cases e : j = k
          · subst e; rw [Hxk.out]; exact hq
          · exact hno.out j (by omega)
    · have hltz : ¬ (k : Int) < (n : Int) := by omega
      have hke : k = n := by omega
      subst hke
      go_wp2
      go_ret
      exact ⟨by rw [firstIdx_miss p 0 xs (by rw [hn.out]; exact hno.out)]; rfl, hb.out⟩

set_option maxHeartbeats 400000 in
theorem containsFunc_int (g : FuncId) (cap : Array Value) (p : Int → Bool) (lo : Nat) (A : Option Addr) (n c : Nat) (xs : List Int) (w : World)
    (eg : Enters Try.prog g) (hx : Ints w lo A xs) (hn : Aside (xs.length = n)) (hl : n ≤ maxLen) (hp : PredB Try.prog g cap (Value.int .i64) p w) :
    Calls Try.prog 94 #[.slice A n c, .func (.func g) #[] cap] w fun e w' => e = .returned (.bool (xs.any p)) ∧ Below w.heap.size w w' := by
  have hcall := indexFunc_int' g cap p lo A n c xs w eg hx hn hl hp
  have hany := firstIdx_ge p xs
  generalize xs.any p = r at hany
  clear eg hx hp hn
  generalize firstIdx p xs = m at hcall hany
  subst hany
  go_enter Try.func94, Try.ntmps94
  go_wp2_with (go_at_call 100; refine hcall.mono ?_; rintro e w' ⟨rfl, hb'⟩)
  go_ret
  exact ⟨rfl, hb'⟩

set_option maxHeartbeats 400000 in
theorem span_within_lit (n lo hi : Int) (b1 o1 b2 o2 : Nat) (w : World) (h1 : w.cell? ⟨b1, o1, none⟩ = some (.int .i64 lo)) (h2 : w.cell? ⟨b2, o2, none⟩ = some (.int .i64 hi)) :
    Calls Try.prog 104 #[.int .i64 n, .pointer (some ⟨b1, o1, none⟩), .pointer (some ⟨b2, o2, none⟩)] w fun e w' => e = .returned (.bool (decide (n < lo) || decide (hi < n))) ∧ w = w' := by
  go_enter Try.func104, Try.ntmps104
  go_wp2
  · go_ret
    exact ⟨by simp, rfl⟩
  · go_ret
    exact ⟨by simp, rfl⟩

set_option maxHeartbeats 400000 in
theorem span_within (lo hi : Int) (l0 : Nat) (A : Option Addr) (n c : Nat) (xs : List Int) (w : World) (hx : Ints w l0 A xs) (hn : Aside (xs.length = n)) (hl : n ≤ maxLen) :
    Calls Try.prog 102 #[.int .i64 lo, .int .i64 hi, .slice A n c] w fun e w' => e = .returned (.bool (btw lo hi xs)) ∧ Below w.heap.size w w' := by
  have e2 := btw_any lo hi xs
  generalize hr : btw lo hi xs = r at e2
  clear hr
  have eg : Enters Try.prog 104 := enters_of Try.func104 (by kernel_rfl) rfl
  have hcall : ∀ W : World, Below w.heap.size w W → W.cell? ⟨w.heap.size, 0, none⟩ = some (.int .i64 lo) → W.cell? ⟨w.heap.size + 1, 0, none⟩ = some (.int .i64 hi) → w.heap.size + 1 < W.heap.size →
      Calls Try.prog 94 #[.slice A n c, .func (.func 104) #[] #[.pointer (some ⟨w.heap.size, 0, none⟩), .pointer (some ⟨w.heap.size + 1, 0, none⟩)]] W fun e w' => e = .returned (.bool (!r)) ∧ Below W.heap.size W w' := by
    rw [← e2]
    intro W hb h1 h2 hs
    refine containsFunc_int 104 _ _ l0 A n c xs W eg (hx.below hb (Nat.le_refl _)) hn hl ?_
    intro x W' hb'
    refine (span_within_lit x lo hi _ _ _ _ W' ?_ ?_).mono ?_
    · rw [hb'.cell (by simp; omega)]; exact h1
    · rw [hb'.cell (by simp; omega)]; exact h2
    · rintro e w' ⟨rfl, rfl⟩; exact ⟨rfl, Below.refl _ _⟩
  have Hc := Lib.hid hcall
  clear hcall eg hx e2 hn
  go_enter Try.func102, Try.ntmps102
  go_wp2_with (go_at_call 94; refine (Hc.out _ ?_ ?_ ?_ ?_).mono ?_)
  · exact ((Below.refl _ _).alloc (Nat.le_refl _) _).alloc (by simp) _
  · simp [go_sem]
  · simp [go_sem]
  · simp
  · rintro e w' ⟨rfl, hb'⟩
    go_wp2
    go_ret
    exact ⟨rfl, (((Below.refl _ _).alloc (Nat.le_refl _) _).alloc (by simp) _).trans (hb'.mono (by simp; omega))⟩

set_option maxHeartbeats 400000 in
theorem thaw_within_lit (n lo hi : Int) (b1 o1 b2 o2 : Nat) (w : World) (h1 : w.cell? ⟨b1, o1, none⟩ = some (.int .i64 lo)) (h2 : w.cell? ⟨b2, o2, none⟩ = some (.int .i64 hi)) :
    Calls Try.prog 95 #[.int .i64 n, .pointer (some ⟨b1, o1, none⟩), .pointer (some ⟨b2, o2, none⟩)] w fun e w' => e = .returned (.bool (decide (n < lo) || decide (hi < n))) ∧ w = w' := by
  go_enter Try.func95, Try.ntmps95
  go_wp2
  · go_ret
    exact ⟨by simp, rfl⟩
  · go_ret
    exact ⟨by simp, rfl⟩

set_option maxHeartbeats 400000 in
theorem thaw_within (lo hi : Int) (l0 : Nat) (A : Option Addr) (n c : Nat) (xs : List Int) (w : World) (hx : Ints w l0 A xs) (hn : Aside (xs.length = n)) (hl : n ≤ maxLen) :
    Calls Try.prog 82 #[.int .i64 lo, .int .i64 hi, .slice A n c] w fun e w' => e = .returned (.bool (btw lo hi xs)) ∧ Below w.heap.size w w' := by
  have e2 := btw_any lo hi xs
  generalize hr : btw lo hi xs = r at e2
  clear hr
  have eg : Enters Try.prog 95 := enters_of Try.func95 (by kernel_rfl) rfl
  have hcall : ∀ W : World, Below w.heap.size w W → W.cell? ⟨w.heap.size, 0, none⟩ = some (.int .i64 lo) → W.cell? ⟨w.heap.size + 1, 0, none⟩ = some (.int .i64 hi) → w.heap.size + 1 < W.heap.size →
      Calls Try.prog 94 #[.slice A n c, .func (.func 95) #[] #[.pointer (some ⟨w.heap.size, 0, none⟩), .pointer (some ⟨w.heap.size + 1, 0, none⟩)]] W fun e w' => e = .returned (.bool (!r)) ∧ Below W.heap.size W w' := by
    rw [← e2]
    intro W hb h1 h2 hs
    refine containsFunc_int 95 _ _ l0 A n c xs W eg (hx.below hb (Nat.le_refl _)) hn hl ?_
    intro x W' hb'
    refine (thaw_within_lit x lo hi _ _ _ _ W' ?_ ?_).mono ?_
    · rw [hb'.cell (by simp; omega)]; exact h1
    · rw [hb'.cell (by simp; omega)]; exact h2
    · rintro e w' ⟨rfl, rfl⟩; exact ⟨rfl, Below.refl _ _⟩
  have Hc := Lib.hid hcall
  clear hcall eg hx e2 hn
  go_enter Try.func82, Try.ntmps82
  go_wp2_with (go_at_call 94; refine (Hc.out _ ?_ ?_ ?_ ?_).mono ?_)
  · exact ((Below.refl _ _).alloc (Nat.le_refl _) _).alloc (by simp) _
  · simp [go_sem]
  · simp [go_sem]
  · simp
  · rintro e w' ⟨rfl, hb'⟩
    go_wp2
    go_ret
    exact ⟨rfl, (((Below.refl _ _).alloc (Nat.le_refl _) _).alloc (by simp) _).trans (hb'.mono (by simp; omega))⟩

end Go.Proofs.Ytlkecgjpmnganaa
