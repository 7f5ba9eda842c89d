/- Contracts: barrel.mass, isKeg, checkKegs, mixed, Mixed. -/
import Derived.Test.YtgpojnghdhophaaDraw
set_option linter.unusedSimpArgs false
set_option linter.unusedVariables false
namespace Go.Proofs.Ytgpojnghdhophaa
open Go.RowKit Go.Shelf

/-- a keg: water, sugar, light, flavour -/
structure K where
  wa : Int
  su : Int
  li : Int
  fl : Int

def K.val (k : K) : Value := .agg #[.int .i64 k.wa, .int .i64 k.su, .int .i64 k.li, .int .i64 k.fl]
def K.cell (k : K) (i : Nat) : Value := if i = 0 then .int .i64 k.wa else if i = 1 then .int .i64 k.su else if i = 2 then .int .i64 k.li else .int .i64 k.fl
def K.d : K := ⟨0, 0, 0, 0⟩
abbrev Kegs := Elems 4 K.cell K.d

def okK (k : K) : Bool := btw 0 1000000000000 [k.wa, k.su] && (btw 1 1000000000 [k.wa + k.su] && (btw 0 1000 [k.li] && btw 1 9 [k.fl]))
theorem okK_iff (k : K) : okK k = true ↔ (0 ≤ k.wa ∧ 0 ≤ k.su) ∧ (1 ≤ k.wa + k.su ∧ k.wa + k.su ≤ 1000000000) ∧ (0 ≤ k.li ∧ k.li ≤ 1000) ∧ (1 ≤ k.fl ∧ k.fl ≤ 9) := by
  simp [okK, btw]; omega

set_option maxHeartbeats 400000 in
theorem kmass_any (a b c d : Int) (w : World) (h : -9223372036854775808 ≤ a + b ∧ a + b ≤ 9223372036854775807) :
    Calls Try.prog 70 #[.agg #[.int .i64 a, .int .i64 b, .int .i64 c, .int .i64 d]] w fun e w' => e = .returned (.int .i64 (a + b)) ∧ Below w.heap.size w w' := by
  obtain ⟨h1, h2⟩ := h
  go_enter Try.func70, Try.ntmps70
  go_wp2
  go_ret
  exact ⟨rfl, (by (try show Below _ _ _); repeat (first | (with_reducible refine Below.setCell ?_ (by first | omega | (simp <;> omega)) _) | (with_reducible refine Below.alloc ?_ (by first | omega | (simp <;> omega)) _) | (with_reducible refine Below.drew ?_) | (with_reducible exact Below.refl _ _) | (with_reducible refine below_call ?_ (by assumption) (by first | omega | (simp <;> omega))) | (with_reducible refine below_call ?_ (Drew.below (by assumption) _) (by first | omega | (simp <;> omega)))))⟩

set_option maxHeartbeats 1000000 in
theorem isKeg_any (a b c d : Int) (w : World) :
    Calls Try.prog 69 #[.agg #[.int .i64 a, .int .i64 b, .int .i64 c, .int .i64 d]] w fun e w' => e = .returned (.bool (okK ⟨a, b, c, d⟩)) ∧ Below w.heap.size w w' := by
  have h1 := fun (A : Option Addr) (W : World) h => barrel_within 0 1000000000000 0 A 2 2 [a, b] W h rfl two_le
  have h2 := fun (A : Option Addr) (W : World) h => barrel_within 1 1000000000 0 A 1 1 [a + b] W h rfl one_le
  have h3 := fun (A : Option Addr) (W : World) h => barrel_within 0 1000 0 A 1 1 [c] W h rfl one_le
  have h4 := fun (A : Option Addr) (W : World) h => barrel_within 1 9 0 A 1 1 [d] W h rfl one_le
  unfold okK
  simp only
  cases e1 : btw 0 1000000000000 [a, b] with
  | false =>
    rw [e1] at h1
    go_enter Try.func69, Try.ntmps69
    go_wp2_with fail
    refine (h1 _ _ (Ints.of2 (by simp [go_sem]) (by simp [go_sem]) (by simp))).mono ?_
    rintro e w1 ⟨rfl, hb1⟩
    have hz1 := hb1.size
    try simp only [World.size_alloc, World.size_setCell] at hz1
    have hc1_0 := fun o => hb1.cell (p := ⟨w.heap.size, o, none⟩) (by show w.heap.size < _; first | omega | (simp only [World.size_alloc, World.size_setCell, World.size_drew]; omega))
    have hf1_0 := fun o => hb1.frozen (p := ⟨w.heap.size, o, none⟩) (by show w.heap.size < _; first | omega | (simp only [World.size_alloc, World.size_setCell, World.size_drew]; omega))
    have hz1_0 : w.heap.size < w1.heap.size := by omega
    go_wp2
    go_ret
    exact ⟨rfl, (by (try show Below _ _ _); repeat (first | (with_reducible refine Below.setCell ?_ (by first | omega | (simp <;> omega)) _) | (with_reducible refine Below.alloc ?_ (by first | omega | (simp <;> omega)) _) | (with_reducible refine Below.drew ?_) | (with_reducible exact Below.refl _ _) | (with_reducible refine below_call ?_ (by assumption) (by first | omega | (simp <;> omega))) | (with_reducible refine below_call ?_ (Drew.below (by assumption) _) (by first | omega | (simp <;> omega)))))⟩
  | true =>
    have hb : 0 ≤ a ∧ a ≤ 1000000000000 ∧ 0 ≤ b ∧ b ≤ 1000000000000 := by simp [btw] at e1; omega
    have hmass := fun W => kmass_any a b c d W (by omega)
    rw [e1] at h1
    generalize btw 1 1000000000 [a + b] = r2 at h2 ⊢
    generalize btw 0 1000 [c] = r3 at h3 ⊢
    generalize btw 1 9 [d] = r4 at h4 ⊢
    clear hb
    cases r2 with
    | false =>
      go_enter Try.func69, Try.ntmps69
      go_wp2_with fail
      refine (h1 _ _ (Ints.of2 (by simp [go_sem]) (by simp [go_sem]) (by simp))).mono ?_
      rintro e w1 ⟨rfl, hb1⟩
      have hz1 := hb1.size
      try simp only [World.size_alloc, World.size_setCell] at hz1
      have hc1_0 := fun o => hb1.cell (p := ⟨w.heap.size, o, none⟩) (by show w.heap.size < _; first | omega | (simp only [World.size_alloc, World.size_setCell, World.size_drew]; omega))
      have hf1_0 := fun o => hb1.frozen (p := ⟨w.heap.size, o, none⟩) (by show w.heap.size < _; first | omega | (simp only [World.size_alloc, World.size_setCell, World.size_drew]; omega))
      have hz1_0 : w.heap.size < w1.heap.size := by omega
      go_wp2_with fail
      refine (hmass _).mono ?_
      rintro e w2 ⟨rfl, hb2⟩
      have hz2 := hb2.size
      try simp only [World.size_alloc, World.size_setCell] at hz2
      have hc2_0 := fun o => hb2.cell (p := ⟨w.heap.size, o, none⟩) (by show w.heap.size < _; first | omega | (simp only [World.size_alloc, World.size_setCell, World.size_drew]; omega))
      have hf2_0 := fun o => hb2.frozen (p := ⟨w.heap.size, o, none⟩) (by show w.heap.size < _; first | omega | (simp only [World.size_alloc, World.size_setCell, World.size_drew]; omega))
      have hz2_0 : w.heap.size < w2.heap.size := by omega
      go_wp2_with fail
      refine (h2 _ _ (Ints.of1 (by simp [go_sem]) (by simp))).mono ?_
      rintro e w3 ⟨rfl, hb3⟩
      have hz3 := hb3.size
      try simp only [World.size_alloc, World.size_setCell] at hz3
      have hc3_0 := fun o => hb3.cell (p := ⟨w.heap.size, o, none⟩) (by show w.heap.size < _; first | omega | (simp only [World.size_alloc, World.size_setCell, World.size_drew]; omega))
      have hf3_0 := fun o => hb3.frozen (p := ⟨w.heap.size, o, none⟩) (by show w.heap.size < _; first | omega | (simp only [World.size_alloc, World.size_setCell, World.size_drew]; omega))
      have hz3_0 : w.heap.size < w3.heap.size := by omega
      go_wp2
      go_ret
      exact ⟨rfl, (by (try show Below _ _ _); repeat (first | (with_reducible refine Below.setCell ?_ (by first | omega | (simp <;> omega)) _) | (with_reducible refine Below.alloc ?_ (by first | omega | (simp <;> omega)) _) | (with_reducible refine Below.drew ?_) | (with_reducible exact Below.refl _ _) | (with_reducible refine below_call ?_ (by assumption) (by first | omega | (simp <;> omega))) | (with_reducible refine below_call ?_ (Drew.below (by assumption) _) (by first | omega | (simp <;> omega)))))⟩
    | true =>
      cases r3 with
      | false =>
        go_enter Try.func69, Try.ntmps69
        go_wp2_with fail
        refine (h1 _ _ (Ints.of2 (by simp [go_sem]) (by simp [go_sem]) (by simp))).mono ?_
        rintro e w1 ⟨rfl, hb1⟩
        have hz1 := hb1.size
        try simp only [World.size_alloc, World.size_setCell] at hz1
        have hc1_0 := fun o => hb1.cell (p := ⟨w.heap.size, o, none⟩) (by show w.heap.size < _; first | omega | (simp only [World.size_alloc, World.size_setCell, World.size_drew]; omega))
        have hf1_0 := fun o => hb1.frozen (p := ⟨w.heap.size, o, none⟩) (by show w.heap.size < _; first | omega | (simp only [World.size_alloc, World.size_setCell, World.size_drew]; omega))
        have hz1_0 : w.heap.size < w1.heap.size := by omega
        go_wp2_with fail
        refine (hmass _).mono ?_
        rintro e w2 ⟨rfl, hb2⟩
        have hz2 := hb2.size
        try simp only [World.size_alloc, World.size_setCell] at hz2
        have hc2_0 := fun o => hb2.cell (p := ⟨w.heap.size, o, none⟩) (by show w.heap.size < _; first | omega | (simp only [World.size_alloc, World.size_setCell, World.size_drew]; omega))
        have hf2_0 := fun o => hb2.frozen (p := ⟨w.heap.size, o, none⟩) (by show w.heap.size < _; first | omega | (simp only [World.size_alloc, World.size_setCell, World.size_drew]; omega))
        have hz2_0 : w.heap.size < w2.heap.size := by omega
        go_wp2_with fail
        refine (h2 _ _ (Ints.of1 (by simp [go_sem]) (by simp))).mono ?_
        rintro e w3 ⟨rfl, hb3⟩
        have hz3 := hb3.size
        try simp only [World.size_alloc, World.size_setCell] at hz3
        have hc3_0 := fun o => hb3.cell (p := ⟨w.heap.size, o, none⟩) (by show w.heap.size < _; first | omega | (simp only [World.size_alloc, World.size_setCell, World.size_drew]; omega))
        have hf3_0 := fun o => hb3.frozen (p := ⟨w.heap.size, o, none⟩) (by show w.heap.size < _; first | omega | (simp only [World.size_alloc, World.size_setCell, World.size_drew]; omega))
        have hz3_0 : w.heap.size < w3.heap.size := by omega
        go_wp2_with fail
        refine (h3 _ _ (Ints.of1 (by simp [go_sem]) (by simp))).mono ?_
        rintro e w4 ⟨rfl, hb4⟩
        have hz4 := hb4.size
        try simp only [World.size_alloc, World.size_setCell] at hz4
        have hc4_0 := fun o => hb4.cell (p := ⟨w.heap.size, o, none⟩) (by show w.heap.size < _; first | omega | (simp only [World.size_alloc, World.size_setCell, World.size_drew]; omega))
        have hf4_0 := fun o => hb4.frozen (p := ⟨w.heap.size, o, none⟩) (by show w.heap.size < _; first | omega | (simp only [World.size_alloc, World.size_setCell, World.size_drew]; omega))
        have hz4_0 : w.heap.size < w4.heap.size := by omega
        go_wp2
        go_ret
        exact ⟨rfl, (by (try show Below _ _ _); repeat (first | (with_reducible refine Below.setCell ?_ (by first | omega | (simp <;> omega)) _) | (with_reducible refine Below.alloc ?_ (by first | omega | (simp <;> omega)) _) | (with_reducible refine Below.drew ?_) | (with_reducible exact Below.refl _ _) | (with_reducible refine below_call ?_ (by assumption) (by first | omega | (simp <;> omega))) | (with_reducible refine below_call ?_ (Drew.below (by assumption) _) (by first | omega | (simp <;> omega)))))⟩
      | true =>
        go_enter Try.func69, Try.ntmps69
        go_wp2_with fail
        refine (h1 _ _ (Ints.of2 (by simp [go_sem]) (by simp [go_sem]) (by simp))).mono ?_
        rintro e w1 ⟨rfl, hb1⟩
        have hz1 := hb1.size
        try simp only [World.size_alloc, World.size_setCell] at hz1
        have hc1_0 := fun o => hb1.cell (p := ⟨w.heap.size, o, none⟩) (by show w.heap.size < _; first | omega | (simp only [World.size_alloc, World.size_setCell, World.size_drew]; omega))
        have hf1_0 := fun o => hb1.frozen (p := ⟨w.heap.size, o, none⟩) (by show w.heap.size < _; first | omega | (simp only [World.size_alloc, World.size_setCell, World.size_drew]; omega))
        have hz1_0 : w.heap.size < w1.heap.size := by omega
        go_wp2_with fail
        refine (hmass _).mono ?_
        rintro e w2 ⟨rfl, hb2⟩
        have hz2 := hb2.size
        try simp only [World.size_alloc, World.size_setCell] at hz2
        have hc2_0 := fun o => hb2.cell (p := ⟨w.heap.size, o, none⟩) (by show w.heap.size < _; first | omega | (simp only [World.size_alloc, World.size_setCell, World.size_drew]; omega))
        have hf2_0 := fun o => hb2.frozen (p := ⟨w.heap.size, o, none⟩) (by show w.heap.size < _; first | omega | (simp only [World.size_alloc, World.size_setCell, World.size_drew]; omega))
        have hz2_0 : w.heap.size < w2.heap.size := by omega
        go_wp2_with fail
        refine (h2 _ _ (Ints.of1 (by simp [go_sem]) (by simp))).mono ?_
        rintro e w3 ⟨rfl, hb3⟩
        have hz3 := hb3.size
        try simp only [World.size_alloc, World.size_setCell] at hz3
        have hc3_0 := fun o => hb3.cell (p := ⟨w.heap.size, o, none⟩) (by show w.heap.size < _; first | omega | (simp only [World.size_alloc, World.size_setCell, World.size_drew]; omega))
        have hf3_0 := fun o => hb3.frozen (p := ⟨w.heap.size, o, none⟩) (by show w.heap.size < _; first | omega | (simp only [World.size_alloc, World.size_setCell, World.size_drew]; omega))
        have hz3_0 : w.heap.size < w3.heap.size := by omega
        go_wp2_with fail
        refine (h3 _ _ (Ints.of1 (by simp [go_sem]) (by simp))).mono ?_
        rintro e w4 ⟨rfl, hb4⟩
        have hz4 := hb4.size
        try simp only [World.size_alloc, World.size_setCell] at hz4
        have hc4_0 := fun o => hb4.cell (p := ⟨w.heap.size, o, none⟩) (by show w.heap.size < _; first | omega | (simp only [World.size_alloc, World.size_setCell, World.size_drew]; omega))
        have hf4_0 := fun o => hb4.frozen (p := ⟨w.heap.size, o, none⟩) (by show w.heap.size < _; first | omega | (simp only [World.size_alloc, World.size_setCell, World.size_drew]; omega))
        have hz4_0 : w.heap.size < w4.heap.size := by omega
        go_wp2_with fail
        refine (h4 _ _ (Ints.of1 (by simp [go_sem]) (by simp))).mono ?_
        rintro e w5 ⟨rfl, hb5⟩
        have hz5 := hb5.size
        try simp only [World.size_alloc, World.size_setCell] at hz5
        have hc5_0 := fun o => hb5.cell (p := ⟨w.heap.size, o, none⟩) (by show w.heap.size < _; first | omega | (simp only [World.size_alloc, World.size_setCell, World.size_drew]; omega))
        have hf5_0 := fun o => hb5.frozen (p := ⟨w.heap.size, o, none⟩) (by show w.heap.size < _; first | omega | (simp only [World.size_alloc, World.size_setCell, World.size_drew]; omega))
        have hz5_0 : w.heap.size < w5.heap.size := by omega
        go_wp2
        go_ret
        exact ⟨by simp, (by (try show Below _ _ _); repeat (first | (with_reducible refine Below.setCell ?_ (by first | omega | (simp <;> omega)) _) | (with_reducible refine Below.alloc ?_ (by first | omega | (simp <;> omega)) _) | (with_reducible refine Below.drew ?_) | (with_reducible exact Below.refl _ _) | (with_reducible refine below_call ?_ (by assumption) (by first | omega | (simp <;> omega))) | (with_reducible refine below_call ?_ (Drew.below (by assumption) _) (by first | omega | (simp <;> omega)))))⟩

theorem checkKegs_lit (a b c d : Int) (w : World) :
    Calls Try.prog 68 #[.agg #[.int .i64 a, .int .i64 b, .int .i64 c, .int .i64 d]] w fun e w' => e = .returned (.bool (!okK ⟨a, b, c, d⟩)) ∧ Below w.heap.size w w' := by
  have h := fun W => isKeg_any a b c d W
  generalize okK ⟨a, b, c, d⟩ = r at h ⊢
  go_enter Try.func68, Try.ntmps68
  go_wp2_with fail
  refine (h _).mono ?_
  rintro e w1 ⟨rfl, hb1⟩
  have hz1 := hb1.size
  try simp only [World.size_alloc, World.size_setCell] at hz1
  have hc1_0 := fun o => hb1.cell (p := ⟨w.heap.size, o, none⟩) (by show w.heap.size < _; first | omega | (simp only [World.size_alloc, World.size_setCell, World.size_drew]; omega))
  have hf1_0 := fun o => hb1.frozen (p := ⟨w.heap.size, o, none⟩) (by show w.heap.size < _; first | omega | (simp only [World.size_alloc, World.size_setCell, World.size_drew]; omega))
  have hz1_0 : w.heap.size < w1.heap.size := by omega
  go_wp2
  go_ret
  exact ⟨rfl, (by (try show Below _ _ _); repeat (first | (with_reducible refine Below.setCell ?_ (by first | omega | (simp <;> omega)) _) | (with_reducible refine Below.alloc ?_ (by first | omega | (simp <;> omega)) _) | (with_reducible refine Below.drew ?_) | (with_reducible exact Below.refl _ _) | (with_reducible refine below_call ?_ (by assumption) (by first | omega | (simp <;> omega))) | (with_reducible refine below_call ?_ (Drew.below (by assumption) _) (by first | omega | (simp <;> omega)))))⟩

theorem checkKegs_pred (w : World) : PredB Try.prog 68 #[] K.val (fun a => !okK a) w := by
  rintro ⟨a, b, c, d⟩ W _
  exact checkKegs_lit a b c d W

set_option maxHeartbeats 400000 in
theorem indexFunc_Keg (g : FuncId) (cap : Array Value) (p : K → Bool) (lo : Nat) (A : Option Addr) (n c : Nat) (xs : List K) (w : World)
    (eg : Enters Try.prog g) (hx : Kegs w lo A xs) (hn : Aside (xs.length = n)) (hl : n ≤ maxLen) (hp : PredB Try.prog g cap K.val p w) :
    Calls Try.prog 88 #[.slice A n c, .func (.func g) #[] cap] w fun e w' => e = .returned (.int .i64 (firstIdx p xs)) ∧ Below w.heap.size w w' := by
  unfold maxLen at hl
  unfold Enters at eg
  go_enter Try.func88, Try.ntmps88
  go_wp2
  go_loopg [5, 8] (n) (fun gg _ i wr => ∃ k : Nat, k ≤ n ∧ n - k ≤ gg ∧ i = .int .i64 k ∧ Aside (∀ j, j < k → p (xs[j]?.getD K.d) = false) ∧ Aside (Below w.heap.size w wr))
  case atStart => exact ⟨0, Nat.zero_le _, Nat.le_refl _, rfl, fun j hj => absurd hj (Nat.not_lt_zero _), Below.refl _ _⟩
  case round =>
    obtain ⟨k, hk, hg, rfl, hno, hb⟩ := hrel
    by_cases hlt : k < n
    · obtain ⟨b, o, rfl, _, hlb, hc⟩ := hx (by have := hn.out; omega)
      have hck0 := (hb.out.cell (p := ⟨b, o + k * 4 + 0, none⟩) hlb).trans (hc k 0 (by have := hn.out; omega) (by omega))
      have hck1 := (hb.out.cell (p := ⟨b, o + k * 4 + 1, none⟩) hlb).trans (hc k 1 (by have := hn.out; omega) (by omega))
      have hck2 := (hb.out.cell (p := ⟨b, o + k * 4 + 2, none⟩) hlb).trans (hc k 2 (by have := hn.out; omega) (by omega))
      have hck3 := (hb.out.cell (p := ⟨b, o + k * 4 + 3, none⟩) hlb).trans (hc k 3 (by have := hn.out; omega) (by omega))
      have hltz : (k : Int) < (n : Int) := by omega
      have hcall := hp (xs[k]?.getD K.d) wr hb.out
      clear hc hp hx
      generalize hxk : xs[k]?.getD K.d = x at hck0 hck1 hck2 hck3 hcall
      have Hxk : Aside (xs[k]?.getD K.d = x) := hxk
      clear hxk
      simp only [K.cell, K.val, Nat.add_zero, if_true, Nat.one_ne_zero, if_false, Nat.reduceEqDiff] at hck0 hck1 hck2 hck3 hcall
      cases hq : p x with
      | true =>
        rw [hq] at hcall
        go_wp2_with (go_at_fn g; refine hcall.mono ?_; rintro e w' ⟨rfl, hb'⟩)
        go_ret
        refine ⟨?_, hb.out.trans (hb'.mono hb.out.size)⟩
        rw [firstIdx_hit p K.d xs k (by have := hn.out; omega) (by rw [Hxk.out]; exact hq) hno.out]
        rfl
      | false =>
        rw [hq] at hcall
        go_wp2_with (go_at_fn g; refine hcall.mono ?_; rintro e w' ⟨rfl, hb'⟩)
        go_roundg (n - (k + 1))
        case measure => omega
        case rel =>
          refine ⟨k + 1, by omega, by omega, by go_num, (show Aside _ from fun j hj => ?_), hb.out.trans (hb'.mono hb.out.size)⟩
          by_cases e : j = k
          · subst e; rw [Hxk.out]; exact hq
          · exact hno.out j (by omega)
    · have hltz : ¬ (k : Int) < (n : Int) := by omega
      have hke : k = n := by omega
      subst hke
      go_wp2
      go_ret
      exact ⟨by rw [firstIdx_miss p K.d xs (by rw [hn.out]; exact hno.out)]; rfl, hb.out⟩

set_option maxHeartbeats 400000 in
theorem containsFunc_Keg (g : FuncId) (cap : Array Value) (p : K → Bool) (lo : Nat) (A : Option Addr) (n c : Nat) (xs : List K) (w : World)
    (eg : Enters Try.prog g) (hx : Kegs w lo A xs) (hn : Aside (xs.length = n)) (hl : n ≤ maxLen) (hp : PredB Try.prog g cap K.val p w) :
    Calls Try.prog 67 #[.slice A n c, .func (.func g) #[] cap] w fun e w' => e = .returned (.bool (xs.any p)) ∧ Below w.heap.size w w' := by
  have hcall := indexFunc_Keg g cap p lo A n c xs w eg hx hn hl hp
  have hany := firstIdx_ge p xs
  generalize xs.any p = r at hany
  clear eg hx hp hn
  generalize firstIdx p xs = m at hcall hany
  subst hany
  go_enter Try.func67, Try.ntmps67
  go_wp2_with (go_at_call 88; refine hcall.mono ?_; rintro e w' ⟨rfl, hb'⟩)
  go_ret
  exact ⟨rfl, hb'⟩

def checkKegsS (xs : List K) : Int := if 12 < xs.length then 5 else if xs.all okK then 0 else 2

theorem isKeg_any_eq (xs : List K) : (xs.any fun a => !okK a) = !xs.all okK := by
  induction xs with
  | nil => rfl
  | cons x l ih => simp only [List.any_cons, List.all_cons, Bool.not_and]; rw [ih]

set_option maxHeartbeats 400000 in
theorem checkKegs_any (lo : Nat) (A : Option Addr) (n c : Nat) (xs : List K) (w : World) (hx : Kegs w lo A xs) (hn : Aside (xs.length = n)) (hl : n ≤ maxLen) :
    Calls Try.prog 35 #[.slice A n c] w fun e w' => e = .returned (.int .i64 (checkKegsS xs)) ∧ Below w.heap.size w w' := by
  have eg : Enters Try.prog 68 := enters_of Try.func68 (by kernel_rfl) rfl
  have hR := fun (W : World) (h : Below w.heap.size w W) => containsFunc_Keg 68 #[] (fun a => !okK a) lo A n c xs W eg (hx.below h (Nat.le_refl _)) hn hl (checkKegs_pred W)
  unfold maxLen at hl
  have hcs : checkKegsS xs = if 12 < n then 5 else if xs.all okK then 0 else 2 := by unfold checkKegsS; rw [hn.out]
  rw [hcs]
  rw [isKeg_any_eq] at hR
  clear hcs hx hn eg
  generalize xs.all okK = r at hR ⊢
  by_cases h100 : 12 < n
  · have hz : (12 : Int) < (n : Int) := by omega
    rw [if_pos h100]
    go_enter Try.func35, Try.ntmps35
    go_wp2
    go_ret
    exact ⟨rfl, Below.refl _ _⟩
  · have hz : ¬ (12 : Int) < (n : Int) := by omega
    rw [if_neg h100]
    cases r with
    | true =>
      go_enter Try.func35, Try.ntmps35
      go_wp2_with fail
      refine (hR _ (Below.refl _ _)).mono ?_
      rintro e w1 ⟨rfl, hb1⟩
      have hz1 := hb1.size
      try simp only [World.size_alloc, World.size_setCell] at hz1
      go_wp2
      go_ret
      exact ⟨rfl, (by (try show Below _ _ _); repeat (first | (with_reducible refine Below.setCell ?_ (by first | omega | (simp <;> omega)) _) | (with_reducible refine Below.alloc ?_ (by first | omega | (simp <;> omega)) _) | (with_reducible refine Below.drew ?_) | (with_reducible exact Below.refl _ _) | (with_reducible refine below_call ?_ (by assumption) (by first | omega | (simp <;> omega))) | (with_reducible refine below_call ?_ (Drew.below (by assumption) _) (by first | omega | (simp <;> omega)))))⟩
    | false =>
      go_enter Try.func35, Try.ntmps35
      go_wp2_with fail
      refine (hR _ (Below.refl _ _)).mono ?_
      rintro e w1 ⟨rfl, hb1⟩
      have hz1 := hb1.size
      try simp only [World.size_alloc, World.size_setCell] at hz1
      go_wp2
      go_ret
      exact ⟨rfl, (by (try show Below _ _ _); repeat (first | (with_reducible refine Below.setCell ?_ (by first | omega | (simp <;> omega)) _) | (with_reducible refine Below.alloc ?_ (by first | omega | (simp <;> omega)) _) | (with_reducible refine Below.drew ?_) | (with_reducible exact Below.refl _ _) | (with_reducible refine below_call ?_ (by assumption) (by first | omega | (simp <;> omega))) | (with_reducible refine below_call ?_ (Drew.below (by assumption) _) (by first | omega | (simp <;> omega)))))⟩

end Go.Proofs.Ytgpojnghdhophaa
