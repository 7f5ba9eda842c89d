/- Contracts: barrel.mixed, Mixed. -/
import Derived.Test.YtgpojnghdhophaaKeg
import Derived.BigRegion
set_option linter.unusedSimpArgs false
set_option linter.unusedVariables false
namespace Go.Proofs.Ytgpojnghdhophaa
open Go.RowKit Go.Shelf

/-- all kegs together; the light is not divided yet -/
def kstep (s x : K) : K := ⟨s.wa + x.wa, s.su + x.su, s.li + x.li * (x.wa + x.su), max s.fl x.fl⟩
def kacc (xs : List K) : K := xs.foldl kstep ⟨0, 0, 0, 0⟩

theorem kacc_snoc (xs : List K) (k : Nat) (hk : k < xs.length) : kacc (xs.take (k + 1)) = kstep (kacc (xs.take k)) (xs[k]?.getD K.d) := by
  unfold kacc
  rw [List.take_succ_eq_append_getElem hk, List.foldl_append]
  simp [List.getElem?_eq_getElem hk]

theorem prod_bound (a b : Int) (ha : 0 ≤ a ∧ a ≤ 1000) (hb : 1 ≤ b ∧ b ≤ 1000000000) : 0 ≤ a * b ∧ a * b ≤ 1000 * b ∧ a * b ≤ 1000000000000 := by
  have h1 := Int.mul_nonneg ha.1 (show 0 ≤ b by omega)
  have h2 := Int.mul_le_mul_of_nonneg_right ha.2 (show 0 ≤ b by omega)
  exact ⟨h1, h2, by omega⟩

theorem kacc_bound (xs : List K) (k : Nat) (hk : k ≤ xs.length) (h : ∀ j, j < k → okK (xs[j]?.getD K.d) = true) :
    0 ≤ (kacc (xs.take k)).wa ∧ 0 ≤ (kacc (xs.take k)).su ∧ k ≤ (kacc (xs.take k)).wa + (kacc (xs.take k)).su ∧ (kacc (xs.take k)).wa + (kacc (xs.take k)).su ≤ k * 1000000000
      ∧ 0 ≤ (kacc (xs.take k)).li ∧ (kacc (xs.take k)).li ≤ k * 1000000000000 ∧ (kacc (xs.take k)).li ≤ 1000 * ((kacc (xs.take k)).wa + (kacc (xs.take k)).su)
      ∧ 0 ≤ (kacc (xs.take k)).fl ∧ (kacc (xs.take k)).fl ≤ 9 ∧ (0 < k → 1 ≤ (kacc (xs.take k)).fl) := by
  induction k with
  | zero => simp [kacc]
  | succ k ih =>
    obtain ⟨i1, i2, i3, i4, i5, i6, i7, i8, i9, _⟩ := ih (by omega) (fun j hj => h j (by omega))
    have hx := (okK_iff _).1 (h k (by omega))
    rw [kacc_snoc xs k (by omega)]
    generalize kacc (xs.take k) = s at *
    generalize xs[k]?.getD K.d = x at *
    obtain ⟨s0, s1, s2, s3⟩ := s
    obtain ⟨x0, x1, x2, x3⟩ := x
    simp only [kstep] at *
    have hp := prod_bound x2 (x0 + x1) hx.2.2.1 hx.2.1
    generalize x2 * (x0 + x1) = p at *
    push_cast
    omega

def kfin (s : K) : K := ⟨s.wa, s.su, s.li / (s.wa + s.su), s.fl⟩

/-- what a round of mixed finds -/
structure MixedI (w : World) (s : K) (wr : World) : Prop where
  below : Below w.heap.size w wr
  size : w.heap.size < wr.heap.size
  c0 : wr.cell? ⟨w.heap.size, 0, none⟩ = some (.int .i64 s.wa)
  c1 : wr.cell? ⟨w.heap.size, 1, none⟩ = some (.int .i64 s.su)
  c2 : wr.cell? ⟨w.heap.size, 2, none⟩ = some (.int .i64 0)
  c3 : wr.cell? ⟨w.heap.size, 3, none⟩ = some (.int .i64 s.fl)
  f0 : wr.frozen? ⟨w.heap.size, 0, none⟩ = false
  f1 : wr.frozen? ⟨w.heap.size, 1, none⟩ = false
  f2 : wr.frozen? ⟨w.heap.size, 2, none⟩ = false
  f3 : wr.frozen? ⟨w.heap.size, 3, none⟩ = false

set_option maxHeartbeats 2000000 in
theorem mixed_any (lo : Nat) (A : Option Addr) (n c : Nat) (xs : List K) (w : World) (hx : Kegs w lo A xs) (hn : Aside (xs.length = n)) (h0 : 0 < n) (hl : n ≤ 12)
    (hok : ∀ j, j < n → okK (xs[j]?.getD K.d) = true) :
    Calls Try.prog 36 #[.slice A n c] w fun e w' => e = .returned (K.val (kfin (kacc xs))) ∧ Below w.heap.size w w' := by
  have Hok := Lib.hid hok
  clear hok
  go_enter Try.func36, Try.ntmps36
  go_wp2
  go_loopg [3, 8] (n) (fun gg l i wr => ∃ k : Nat, k ≤ n ∧ n - k ≤ gg ∧ l = .int .i64 (kacc (xs.take k)).li ∧ i = .int .i64 k ∧ Aside (MixedI w (kacc (xs.take k)) wr))
  case atStart =>
    exact ⟨0, Nat.zero_le _, Nat.le_refl _, rfl, rfl, { below := (by (try show Below _ _ _); repeat (first | (with_reducible refine Below.setCell ?_ (by first | omega | (simp <;> omega)) _) | (with_reducible refine Below.alloc ?_ (by first | omega | (simp <;> omega)) _) | (with_reducible refine Below.drew ?_) | (with_reducible exact Below.refl _ _) | (with_reducible refine below_call ?_ (by assumption) (by first | omega | (simp <;> omega))) | (with_reducible refine below_call ?_ (Drew.below (by assumption) _) (by first | omega | (simp <;> omega))))), size := by simp, c0 := by simp [go_sem, kacc], c1 := by simp [go_sem, kacc], c2 := by simp [go_sem], c3 := by simp [go_sem, kacc], f0 := by simp [go_sem], f1 := by simp [go_sem], f2 := by simp [go_sem], f3 := by simp [go_sem] }⟩
  case round =>
    obtain ⟨k, hk, hg, rfl, rfl, I⟩ := hrel
    obtain ⟨hb0, hs, c0, c1, c2, c3, f0, f1, f2, f3⟩ := I.out
    have hsum := kacc_bound xs k (by have := hn.out; omega) (fun j hj => Hok.out j (by omega))
    clear I
    by_cases hlt : k < n
    · obtain ⟨b, o, rfl, _, hlb, hc⟩ := hx (by have := hn.out; omega)
      have hck0 := (hb0.cell (p := ⟨b, o + k * 4 + 0, none⟩) hlb).trans (hc k 0 (by have := hn.out; omega) (by omega))
      have hck1 := (hb0.cell (p := ⟨b, o + k * 4 + 1, none⟩) hlb).trans (hc k 1 (by have := hn.out; omega) (by omega))
      have hck2 := (hb0.cell (p := ⟨b, o + k * 4 + 2, none⟩) hlb).trans (hc k 2 (by have := hn.out; omega) (by omega))
      have hck3 := (hb0.cell (p := ⟨b, o + k * 4 + 3, none⟩) hlb).trans (hc k 3 (by have := hn.out; omega) (by omega))
      have hltz : (k : Int) < (n : Int) := by omega
      have hsn := kacc_snoc xs k (by have := hn.out; omega)
      have hxk0 := (okK_iff _).1 (Hok.out k hlt)
      clear hc hx
      generalize xs[k]?.getD K.d = x at hck0 hck1 hck2 hck3 hsn hxk0
      obtain ⟨x0, x1, x2, x3⟩ := x
      simp only [K.cell, Nat.add_zero, if_true, Nat.one_ne_zero, if_false, Nat.reduceEqDiff] at hck0 hck1 hck2 hck3
      generalize kacc (xs.take k) = S at hsum c0 c1 c3 hsn ⊢
      obtain ⟨s0, s1, s2, s3⟩ := S
      simp only [kstep] at hsn hsum hxk0 c0 c1 c3 ⊢
      have hp := prod_bound x2 (x0 + x1) hxk0.2.2.1 hxk0.2.1
      have Hsn := Lib.hid hsn
      clear hsn
      have hmass := fun W => kmass_any x0 x1 x2 x3 W (by omega)
      have hord : s3 < x3 ∨ s3 = x3 ∨ x3 < s3 := by omega
      rcases hord with hord | hord | hord
      · have hmx : max s3 x3 = x3 := by omega
        have Hmx := Lib.hid hmx
        clear hmx
        go_wp2_with fail
        go_region
        go_wp2
        go_region_with (go_at_call 70; refine (hmass _).mono ?_; rintro e w1 ⟨rfl, hx1⟩; have hb1 := below_undrew hx1; have hz1 := hb1.size; (try simp only [World.size_alloc, World.size_setCell, World.size_drew] at hz1); have hc1_0 := fun o => hb1.cell (p := ⟨w.heap.size, o, none⟩) (by show w.heap.size < _; first | omega | (simp only [World.size_alloc, World.size_setCell, World.size_drew]; omega)); have hf1_0 := fun o => hb1.frozen (p := ⟨w.heap.size, o, none⟩) (by show w.heap.size < _; first | omega | (simp only [World.size_alloc, World.size_setCell, World.size_drew]; omega)); have hz1_0 : w.heap.size < w1.heap.size := (by omega); have hk0 := fun o => hb1.cell (p := ⟨wr.heap.size, o, none⟩) (by show wr.heap.size < _; first | omega | (simp only [World.size_alloc, World.size_setCell, World.size_drew]; omega)); have hk2 : wr.heap.size < w1.heap.size := (by omega))
        all_goals
          go_wp2
          go_roundg (n - (k + 1))
          case measure => omega
          case rel =>
            refine ⟨k + 1, by omega, by omega, by rw [Hsn.out], by go_num, ?_⟩
            rw [Hsn.out, Hmx.out]
            exact { below := (by (try show Below _ _ _); repeat (first | (with_reducible refine Below.setCell ?_ (by first | omega | (simp <;> omega)) _) | (with_reducible refine Below.alloc ?_ (by first | omega | (simp <;> omega)) _) | (with_reducible refine Below.drew ?_) | (with_reducible exact Below.refl _ _) | (with_reducible exact hb0) | (with_reducible refine below_call ?_ (by assumption) (by first | omega | (simp <;> omega))) | (with_reducible refine below_call ?_ (Drew.below (by assumption) _) (by first | omega | (simp <;> omega))))), size := (by simp; omega), c0 := (by simp [go_sem, cell_set, hc1_0, c0, hs]), c1 := (by simp [go_sem, cell_set, hc1_0, c1, hs]), c2 := (by simp [go_sem, cell_set, hc1_0, c2, hs]), c3 := (by simp [go_sem, cell_set, hc1_0, c3, hs]), f0 := (by simp [go_sem, hf1_0, f0, hs]), f1 := (by simp [go_sem, hf1_0, f1, hs]), f2 := (by simp [go_sem, hf1_0, f2, hs]), f3 := (by simp [go_sem, hf1_0, f3, hs]) }
      · subst hord
        have hmx : max s3 s3 = s3 := by omega
        have Hmx := Lib.hid hmx
        clear hmx
        go_wp2_with fail
        go_region
        go_wp2
        go_region_with (go_at_call 70; refine (hmass _).mono ?_; rintro e w1 ⟨rfl, hx1⟩; have hb1 := below_undrew hx1; have hz1 := hb1.size; (try simp only [World.size_alloc, World.size_setCell, World.size_drew] at hz1); have hc1_0 := fun o => hb1.cell (p := ⟨w.heap.size, o, none⟩) (by show w.heap.size < _; first | omega | (simp only [World.size_alloc, World.size_setCell, World.size_drew]; omega)); have hf1_0 := fun o => hb1.frozen (p := ⟨w.heap.size, o, none⟩) (by show w.heap.size < _; first | omega | (simp only [World.size_alloc, World.size_setCell, World.size_drew]; omega)); have hz1_0 : w.heap.size < w1.heap.size := (by omega); have hk0 := fun o => hb1.cell (p := ⟨wr.heap.size, o, none⟩) (by show wr.heap.size < _; first | omega | (simp only [World.size_alloc, World.size_setCell, World.size_drew]; omega)); have hk2 : wr.heap.size < w1.heap.size := (by omega))
        all_goals
          go_wp2
          go_roundg (n - (k + 1))
          case measure => omega
          case rel =>
            refine ⟨k + 1, by omega, by omega, by rw [Hsn.out], by go_num, ?_⟩
            rw [Hsn.out, Hmx.out]
            exact { below := (by (try show Below _ _ _); repeat (first | (with_reducible refine Below.setCell ?_ (by first | omega | (simp <;> omega)) _) | (with_reducible refine Below.alloc ?_ (by first | omega | (simp <;> omega)) _) | (with_reducible refine Below.drew ?_) | (with_reducible exact Below.refl _ _) | (with_reducible exact hb0) | (with_reducible refine below_call ?_ (by assumption) (by first | omega | (simp <;> omega))) | (with_reducible refine below_call ?_ (Drew.below (by assumption) _) (by first | omega | (simp <;> omega))))), size := (by simp; omega), c0 := (by simp [go_sem, cell_set, hc1_0, c0, hs]), c1 := (by simp [go_sem, cell_set, hc1_0, c1, hs]), c2 := (by simp [go_sem, cell_set, hc1_0, c2, hs]), c3 := (by simp [go_sem, cell_set, hc1_0, c3, hs]), f0 := (by simp [go_sem, hf1_0, f0, hs]), f1 := (by simp [go_sem, hf1_0, f1, hs]), f2 := (by simp [go_sem, hf1_0, f2, hs]), f3 := (by simp [go_sem, hf1_0, f3, hs]) }
      · have hmx : max s3 x3 = s3 := by omega
        have Hmx := Lib.hid hmx
        clear hmx
        go_wp2_with fail
        go_region
        go_wp2
        go_region_with (go_at_call 70; refine (hmass _).mono ?_; rintro e w1 ⟨rfl, hx1⟩; have hb1 := below_undrew hx1; have hz1 := hb1.size; (try simp only [World.size_alloc, World.size_setCell, World.size_drew] at hz1); have hc1_0 := fun o => hb1.cell (p := ⟨w.heap.size, o, none⟩) (by show w.heap.size < _; first | omega | (simp only [World.size_alloc, World.size_setCell, World.size_drew]; omega)); have hf1_0 := fun o => hb1.frozen (p := ⟨w.heap.size, o, none⟩) (by show w.heap.size < _; first | omega | (simp only [World.size_alloc, World.size_setCell, World.size_drew]; omega)); have hz1_0 : w.heap.size < w1.heap.size := (by omega); have hk0 := fun o => hb1.cell (p := ⟨wr.heap.size, o, none⟩) (by show wr.heap.size < _; first | omega | (simp only [World.size_alloc, World.size_setCell, World.size_drew]; omega)); have hk2 : wr.heap.size < w1.heap.size := (by omega))
        all_goals
          go_wp2
          go_roundg (n - (k + 1))
          case measure => omega
          case rel =>
            refine ⟨k + 1, by omega, by omega, by rw [Hsn.out], by go_num, ?_⟩
            rw [Hsn.out, Hmx.out]
            exact { below := (by (try show Below _ _ _); repeat (first | (with_reducible refine Below.setCell ?_ (by first | omega | (simp <;> omega)) _) | (with_reducible refine Below.alloc ?_ (by first | omega | (simp <;> omega)) _) | (with_reducible refine Below.drew ?_) | (with_reducible exact Below.refl _ _) | (with_reducible exact hb0) | (with_reducible refine below_call ?_ (by assumption) (by first | omega | (simp <;> omega))) | (with_reducible refine below_call ?_ (Drew.below (by assumption) _) (by first | omega | (simp <;> omega))))), size := (by simp; omega), c0 := (by simp [go_sem, cell_set, hc1_0, c0, hs]), c1 := (by simp [go_sem, cell_set, hc1_0, c1, hs]), c2 := (by simp [go_sem, cell_set, hc1_0, c2, hs]), c3 := (by simp [go_sem, cell_set, hc1_0, c3, hs]), f0 := (by simp [go_sem, hf1_0, f0, hs]), f1 := (by simp [go_sem, hf1_0, f1, hs]), f2 := (by simp [go_sem, hf1_0, f2, hs]), f3 := (by simp [go_sem, hf1_0, f3, hs]) }
    · have hltz : ¬ (k : Int) < (n : Int) := by omega
      have hke : k = n := by omega
      subst hke
      have htk : xs.take k = xs := List.take_of_length_le (by have := hn.out; omega)
      rw [htk] at c0 c1 c3 hsum ⊢
      clear htk hx
      generalize hS : kacc xs = S at hsum c0 c1 c3 ⊢
      obtain ⟨s0, s1, s2, s3⟩ := S
      have HS := Lib.hid hS
      clear hS
      simp only at hsum c0 c1 c3 ⊢
      have hmass := fun W => kmass_any s0 s1 0 s3 W (by omega)
      have hnz : ((s0 + s1) == 0) = false := by rw [beq_eq_false_iff_ne]; omega
      have hnz2 : s0 + s1 ≠ 0 := by omega
      go_wp2_with fail
      refine (hmass _).mono ?_
      rintro e w1 ⟨rfl, hb1⟩
      have hz1 := hb1.size
      try simp only [World.size_alloc, World.size_setCell] at hz1
      have hc1_0 := fun o => hb1.cell (p := ⟨w.heap.size, o, none⟩) (by show w.heap.size < _; first | omega | (simp only [World.size_alloc, World.size_setCell, World.size_drew]; omega))
      have hf1_0 := fun o => hb1.frozen (p := ⟨w.heap.size, o, none⟩) (by show w.heap.size < _; first | omega | (simp only [World.size_alloc, World.size_setCell, World.size_drew]; omega))
      have hz1_0 : w.heap.size < w1.heap.size := by omega
      go_wp2
      refine bodyPost_ret (v := .agg #[.int .i64 s0, .int .i64 s1, .int .i64 (s2 / (s0 + s1)), .int .i64 s3]) (by simp [results, Try.results36, go_sem, cell_set, hc1_0, c0, c1, c2, c3]) rfl ⟨by rw [HS.out]; rfl, (by (try show Below _ _ _); repeat (first | (with_reducible refine Below.setCell ?_ (by first | omega | (simp <;> omega)) _) | (with_reducible refine Below.alloc ?_ (by first | omega | (simp <;> omega)) _) | (with_reducible refine Below.drew ?_) | (with_reducible exact Below.refl _ _) | (with_reducible exact hb0) | (with_reducible refine below_call ?_ (by assumption) (by first | omega | (simp <;> omega))) | (with_reducible refine below_call ?_ (Drew.below (by assumption) _) (by first | omega | (simp <;> omega)))))⟩

/-- kegs that are poured together, with the error -/
def mixedE (xs : List K) : K × Int := if checkKegsS xs = 0 then (if xs.length = 0 then (⟨0, 0, 0, 0⟩, 4) else (kfin (kacc xs), 0)) else (⟨0, 0, 0, 0⟩, checkKegsS xs)

theorem checkKegsS_zero (xs : List K) : checkKegsS xs = 0 ↔ xs.length ≤ 12 ∧ xs.all okK = true := by
  unfold checkKegsS
  by_cases h : 12 < xs.length
  · rw [if_pos h]; omega
  · rw [if_neg h]
    cases h2 : xs.all okK <;> simp <;> omega

set_option maxHeartbeats 1000000 in
theorem Mixed_any (lo : Nat) (A : Option Addr) (n c : Nat) (xs : List K) (w : World) (hx : Kegs w lo A xs) (hn : Aside (xs.length = n)) (hl : n ≤ maxLen) :
    Calls Try.prog 9 #[.slice A n c] w fun e w' => e = .returned (.tuple #[K.val (mixedE xs).1, .int .i64 (mixedE xs).2]) ∧ Below w.heap.size w w' := by
  have hC := fun (W : World) (h : Below w.heap.size w W) => checkKegs_any lo A n c xs W (hx.below h (Nat.le_refl _)) hn hl
  unfold mixedE
  by_cases h0 : checkKegsS xs = 0
  · obtain ⟨h12, hall⟩ := (checkKegsS_zero xs).1 h0
    rw [if_pos h0]
    rw [h0] at hC
    by_cases hz : xs.length = 0
    · rw [if_pos hz]
      obtain rfl : n = 0 := by have := hn.out; omega
      simp only [K.val]
      clear hx hall h12 h0 hz
      go_enter Try.func9, Try.ntmps9
      go_wp2_with fail
      refine (hC _ ((Below.refl _ _).alloc (Nat.le_refl _) _)).mono ?_
      rintro e w1 ⟨rfl, hb1⟩
      have hz1 := hb1.size
      try simp only [World.size_alloc, World.size_setCell] at hz1
      have hc1_0 := fun o => hb1.cell (p := ⟨w.heap.size, o, none⟩) (by show w.heap.size < _; first | omega | (simp only [World.size_alloc, World.size_setCell, World.size_drew]; omega))
      have hf1_0 := fun o => hb1.frozen (p := ⟨w.heap.size, o, none⟩) (by show w.heap.size < _; first | omega | (simp only [World.size_alloc, World.size_setCell, World.size_drew]; omega))
      have hz1_0 : w.heap.size < w1.heap.size := by omega
      go_wp2
      refine bodyPost_ret (v := .tuple #[.agg #[.int .i64 0, .int .i64 0, .int .i64 0, .int .i64 0], .int .i64 4]) (by simp [results, Try.results9, go_sem, cell_set, hc1_0]) rfl ⟨rfl, (by (try show Below _ _ _); repeat (first | (with_reducible refine Below.setCell ?_ (by first | omega | (simp <;> omega)) _) | (with_reducible refine Below.alloc ?_ (by first | omega | (simp <;> omega)) _) | (with_reducible refine Below.drew ?_) | (with_reducible exact Below.refl _ _) | (with_reducible refine below_call ?_ (by assumption) (by first | omega | (simp <;> omega))) | (with_reducible refine below_call ?_ (Drew.below (by assumption) _) (by first | omega | (simp <;> omega)))))⟩
    · rw [if_neg hz]
      have hM := fun (W : World) (h : Below w.heap.size w W) => mixed_any lo A n c xs W (hx.below h (Nat.le_refl _)) hn (by have := hn.out; omega) (by have := hn.out; omega) (fun j hj => by
        have hj' : j < xs.length := by have := hn.out; omega
        rw [List.getElem?_eq_getElem hj', Option.getD_some]
        exact (List.all_eq_true.1 hall) _ (List.getElem_mem hj'))
      have hn0 : ((n : Int) == 0) = false := by rw [beq_eq_false_iff_ne]; have := hn.out; omega
      have hn1 : n ≠ 0 := by have := hn.out; omega
      generalize kfin (kacc xs) = R at hM ⊢
      obtain ⟨r0, r1, r2, r3⟩ := R
      simp only [K.val] at hM ⊢
      clear hx hall h12 h0 hz
      go_enter Try.func9, Try.ntmps9
      go_wp2_with fail
      refine (hC _ ((Below.refl _ _).alloc (Nat.le_refl _) _)).mono ?_
      rintro e w1 ⟨rfl, hb1⟩
      have hz1 := hb1.size
      try simp only [World.size_alloc, World.size_setCell] at hz1
      have hc1_0 := fun o => hb1.cell (p := ⟨w.heap.size, o, none⟩) (by show w.heap.size < _; first | omega | (simp only [World.size_alloc, World.size_setCell, World.size_drew]; omega))
      have hf1_0 := fun o => hb1.frozen (p := ⟨w.heap.size, o, none⟩) (by show w.heap.size < _; first | omega | (simp only [World.size_alloc, World.size_setCell, World.size_drew]; omega))
      have hz1_0 : w.heap.size < w1.heap.size := by omega
      go_wp2_with fail
      refine (hM _ (by (try show Below _ _ _); repeat (first | (with_reducible refine Below.setCell ?_ (by first | omega | (simp <;> omega)) _) | (with_reducible refine Below.alloc ?_ (by first | omega | (simp <;> omega)) _) | (with_reducible refine Below.drew ?_) | (with_reducible exact Below.refl _ _) | (with_reducible refine below_call ?_ (by assumption) (by first | omega | (simp <;> omega))) | (with_reducible refine below_call ?_ (Drew.below (by assumption) _) (by first | omega | (simp <;> omega)))))).mono ?_
      rintro e w2 ⟨rfl, hb2⟩
      have hz2 := hb2.size
      try simp only [World.size_alloc, World.size_setCell] at hz2
      have hc2_0 := fun o => hb2.cell (p := ⟨w.heap.size, o, none⟩) (by show w.heap.size < _; first | omega | (simp only [World.size_alloc, World.size_setCell, World.size_drew]; omega))
      have hf2_0 := fun o => hb2.frozen (p := ⟨w.heap.size, o, none⟩) (by show w.heap.size < _; first | omega | (simp only [World.size_alloc, World.size_setCell, World.size_drew]; omega))
      have hz2_0 : w.heap.size < w2.heap.size := by omega
      go_wp2
      refine bodyPost_ret (v := .tuple #[.agg #[.int .i64 r0, .int .i64 r1, .int .i64 r2, .int .i64 r3], .int .i64 0]) (by simp [results, Try.results9, go_sem, cell_set, hc1_0, hc2_0, hz2_0]) rfl ⟨rfl, (by (try show Below _ _ _); repeat (first | (with_reducible refine Below.setCell ?_ (by first | omega | (simp <;> omega)) _) | (with_reducible refine Below.alloc ?_ (by first | omega | (simp <;> omega)) _) | (with_reducible refine Below.drew ?_) | (with_reducible exact Below.refl _ _) | (with_reducible refine below_call ?_ (by assumption) (by first | omega | (simp <;> omega))) | (with_reducible refine below_call ?_ (Drew.below (by assumption) _) (by first | omega | (simp <;> omega)))))⟩
  · rw [if_neg h0]
    have hne : (checkKegsS xs == 0) = false := by rw [beq_eq_false_iff_ne]; exact h0
    have hv : checkKegsS xs = 5 ∨ checkKegsS xs = 2 := by unfold checkKegsS at h0 ⊢; split <;> (try split) <;> simp_all
    simp only [K.val]
    generalize checkKegsS xs = e at hC hne hv h0 ⊢
    clear hx
    rcases hv with rfl | rfl
    all_goals
      clear hne h0
      go_enter Try.func9, Try.ntmps9
      go_wp2_with fail
      refine (hC _ ((Below.refl _ _).alloc (Nat.le_refl _) _)).mono ?_
      rintro e w1 ⟨rfl, hb1⟩
      have hz1 := hb1.size
      try simp only [World.size_alloc, World.size_setCell] at hz1
      have hc1_0 := fun o => hb1.cell (p := ⟨w.heap.size, o, none⟩) (by show w.heap.size < _; first | omega | (simp only [World.size_alloc, World.size_setCell, World.size_drew]; omega))
      have hf1_0 := fun o => hb1.frozen (p := ⟨w.heap.size, o, none⟩) (by show w.heap.size < _; first | omega | (simp only [World.size_alloc, World.size_setCell, World.size_drew]; omega))
      have hz1_0 : w.heap.size < w1.heap.size := by omega
      go_wp2
    ·
      refine bodyPost_ret (v := .tuple #[.agg #[.int .i64 0, .int .i64 0, .int .i64 0, .int .i64 0], .int .i64 5]) (by simp [results, Try.results9, go_sem, cell_set, hc1_0]) rfl ⟨rfl, (by (try show Below _ _ _); repeat (first | (with_reducible refine Below.setCell ?_ (by first | omega | (simp <;> omega)) _) | (with_reducible refine Below.alloc ?_ (by first | omega | (simp <;> omega)) _) | (with_reducible refine Below.drew ?_) | (with_reducible exact Below.refl _ _) | (with_reducible refine below_call ?_ (by assumption) (by first | omega | (simp <;> omega))) | (with_reducible refine below_call ?_ (Drew.below (by assumption) _) (by first | omega | (simp <;> omega)))))⟩
    ·
      refine bodyPost_ret (v := .tuple #[.agg #[.int .i64 0, .int .i64 0, .int .i64 0, .int .i64 0], .int .i64 2]) (by simp [results, Try.results9, go_sem, cell_set, hc1_0]) rfl ⟨rfl, (by (try show Below _ _ _); repeat (first | (with_reducible refine Below.setCell ?_ (by first | omega | (simp <;> omega)) _) | (with_reducible refine Below.alloc ?_ (by first | omega | (simp <;> omega)) _) | (with_reducible refine Below.drew ?_) | (with_reducible exact Below.refl _ _) | (with_reducible refine below_call ?_ (by assumption) (by first | omega | (simp <;> omega))) | (with_reducible refine below_call ?_ (Drew.below (by assumption) _) (by first | omega | (simp <;> omega)))))⟩

end Go.Proofs.Ytgpojnghdhophaa
