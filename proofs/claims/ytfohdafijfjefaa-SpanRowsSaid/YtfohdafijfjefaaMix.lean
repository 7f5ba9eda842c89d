/- Contracts: span.Mix, check, fold, Hull, Meet. -/
import Derived.Test.YtfohdafijfjefaaSap1
import Derived.RegionTactic
set_option linter.unusedSimpArgs false
set_option linter.unusedVariables false
namespace Go.Proofs.Ytfohdafijfjefaa
open Go.RowKit Go.Shelf

def sumR (xs : List R) : R := xs.foldl (fun s x => ⟨s.lo + x.lo, s.hi + x.hi⟩) ⟨0, 0⟩
theorem sumR_snoc (xs : List R) (k : Nat) (hk : k < xs.length) : sumR (xs.take (k + 1)) = ⟨(sumR (xs.take k)).lo + (xs[k]?.getD R.d).lo, (sumR (xs.take k)).hi + (xs[k]?.getD R.d).hi⟩ := by
  unfold sumR
  rw [List.take_succ_eq_append_getElem hk, List.foldl_append]
  simp [List.getElem?_eq_getElem hk]

theorem sumR_bound (xs : List R) (B C : Int) (k : Nat) (hk : k ≤ xs.length) (h : ∀ j, j < k → B ≤ (xs[j]?.getD R.d).lo ∧ (xs[j]?.getD R.d).lo ≤ C ∧ B ≤ (xs[j]?.getD R.d).hi ∧ (xs[j]?.getD R.d).hi ≤ C) :
    k * B ≤ (sumR (xs.take k)).lo ∧ (sumR (xs.take k)).lo ≤ k * C ∧ k * B ≤ (sumR (xs.take k)).hi ∧ (sumR (xs.take k)).hi ≤ k * C := by
  induction k with
  | zero => simp [sumR]
  | succ k ih =>
    have i := ih (by omega) (fun j hj => h j (by omega))
    have hx := h k (by omega)
    rw [sumR_snoc xs k (by omega)]
    have e1 : ((k + 1 : Nat) : Int) * B = k * B + B := by rw [Int.natCast_add, Int.add_mul]; simp
    have e2 : ((k + 1 : Nat) : Int) * C = k * C + C := by rw [Int.natCast_add, Int.add_mul]; simp
    rw [e1, e2]
    simp only
    omega

/-- pouring together -/
def mixS (xs : List R) : R × Int := if 100 < xs.length then (⟨0, 0⟩, 5) else if xs.all okS = false then (⟨0, 0⟩, 2) else if okS (sumR xs) = false then (⟨0, 0⟩, 10) else (sumR xs, 0)

theorem all_take {α : Type} (p : α → Bool) (d : α) (xs : List α) (h : ∀ j, j < xs.length → p (xs[j]?.getD d) = true) : xs.all p = true := by
  rw [List.all_eq_true]
  intro x hx
  obtain ⟨j, hj, rfl⟩ := List.getElem_of_mem hx
  simpa [List.getElem?_eq_getElem hj] using h j hj
theorem all_false {α : Type} (p : α → Bool) (d : α) (xs : List α) (k : Nat) (hk : k < xs.length) (h : p (xs[k]?.getD d) = false) : xs.all p = false := by
  rw [List.all_eq_false]
  exact ⟨xs[k], List.getElem_mem hk, by simpa [List.getElem?_eq_getElem hk] using h⟩

/-- what a round of Mix finds -/
structure MixI (w : World) (xs : List R) (k : Nat) (wr : World) : Prop where
  below : Below w.heap.size w wr
  size : w.heap.size + 1 < wr.heap.size
  r0 : wr.cell? ⟨w.heap.size, 0, none⟩ = some (.int .i64 0)
  r1 : wr.cell? ⟨w.heap.size, 1, none⟩ = some (.int .i64 0)
  rf : wr.frozen? ⟨w.heap.size, 0, none⟩ = false
  rg : wr.frozen? ⟨w.heap.size, 1, none⟩ = false
  a0 : wr.cell? ⟨w.heap.size + 1, 0, none⟩ = some (.int .i64 (sumR (xs.take k)).lo)
  a1 : wr.cell? ⟨w.heap.size + 1, 1, none⟩ = some (.int .i64 (sumR (xs.take k)).hi)
  af : wr.frozen? ⟨w.heap.size + 1, 0, none⟩ = false
  ag : wr.frozen? ⟨w.heap.size + 1, 1, none⟩ = false
  ok : ∀ j, j < k → okS (xs[j]?.getD R.d) = true

set_option maxHeartbeats 1000000 in
theorem mix_any (lo : Nat) (A : Option Addr) (n c : Nat) (xs : List R) (w : World) (hx : Ranges w lo A xs) (hn : Aside (xs.length = n)) (hl : n ≤ maxLen) :
    Calls Try.prog 31 #[.slice A n c] w fun e w' => e = .returned (RE (mixS xs)) ∧ Below w.heap.size w w' := by
  unfold maxLen at hl
  by_cases h100 : 100 < n
  · have e : mixS xs = (⟨0, 0⟩, 5) := by unfold mixS; rw [if_pos (by have := hn.out; omega)]
    rw [e]
    have hz : (100 : Int) < (n : Int) := by omega
    go_enter Try.func31, Try.ntmps31
    go_wp2
    refine bodyPost_ret (v := .tuple #[.agg #[.int .i64 0, .int .i64 0], .int .i64 5]) (by simp [results, Try.results31, go_sem, cell_set]) rfl ⟨rfl, (by (try show Below _ _ _); repeat (first | (with_reducible refine Below.setCell ?_ (by first | omega | (simp <;> omega)) _) | (with_reducible refine Below.alloc ?_ (by first | omega | (simp <;> omega)) _) | (with_reducible refine Below.drew ?_) | (with_reducible exact Below.refl _ _) | (with_reducible refine below_call ?_ (by assumption) (by first | omega | (simp <;> omega))) | (with_reducible refine below_call ?_ (Drew.below (by assumption) _) (by first | omega | (simp <;> omega)))))⟩
  · have hz : ¬ (100 : Int) < (n : Int) := by omega
    go_enter Try.func31, Try.ntmps31
    go_wp2
    go_loopg [13] (n) (fun gg i wr => ∃ k : Nat, k ≤ n ∧ n - k ≤ gg ∧ i = .int .i64 k ∧ Aside (MixI w xs k wr))
    case atStart =>
      exact ⟨0, Nat.zero_le _, Nat.le_refl _, rfl, { below := (by (try show Below _ _ _); repeat (first | (with_reducible refine Below.setCell ?_ (by first | omega | (simp <;> omega)) _) | (with_reducible refine Below.alloc ?_ (by first | omega | (simp <;> omega)) _) | (with_reducible refine Below.drew ?_) | (with_reducible exact Below.refl _ _) | (with_reducible refine below_call ?_ (by assumption) (by first | omega | (simp <;> omega))) | (with_reducible refine below_call ?_ (Drew.below (by assumption) _) (by first | omega | (simp <;> omega))))), size := by simp, r0 := by simp [go_sem], r1 := by simp [go_sem], rf := by simp [go_sem], rg := by simp [go_sem], a0 := by simp [go_sem, sumR], a1 := by simp [go_sem, sumR], af := by simp [go_sem], ag := by simp [go_sem], ok := fun j hj => absurd hj (Nat.not_lt_zero _) }⟩
    case round =>
      obtain ⟨k, hk, hg, rfl, I⟩ := hrel
      obtain ⟨hb0, hs, r0, r1, rf, rg, a0, a1, af, ag, hall⟩ := I.out
      have hsum := sumR_bound xs 0 1000000000000 k (by have := hn.out; omega) (fun j hj => by have := (okS_iff _).1 (hall j hj); omega)
      have hall' := Lib.hid hall
      have hs' : w.heap.size < wr.heap.size := by omega
      clear I hall
      by_cases hlt : k < n
      · obtain ⟨b, o, rfl, _, hlb, hc⟩ := hx (by have := hn.out; omega)
        have hck0 := (hb0.cell (p := ⟨b, o + k * 2 + 0, none⟩) hlb).trans (hc k 0 (by have := hn.out; omega) (by omega))
        have hck1 := (hb0.cell (p := ⟨b, o + k * 2 + 1, none⟩) hlb).trans (hc k 1 (by have := hn.out; omega) (by omega))
        have hltz : (k : Int) < (n : Int) := by omega
        have hsn := sumR_snoc xs k (by have := hn.out; omega)
        have hfa := all_false okS R.d xs k (by have := hn.out; omega)
        clear hc hx
        generalize hxk : xs[k]?.getD R.d = x at hck0 hck1 hsn hfa
        obtain ⟨x0, x1⟩ := x
        simp only [R.cell, Nat.add_zero, if_true, Nat.one_ne_zero, if_false] at hck0 hck1
        generalize hS : sumR (xs.take k) = S at hsum a0 a1 hsn
        obtain ⟨s0, s1⟩ := S
        have Hsn := Lib.hid hsn
        have Hfa := Lib.hid hfa
        have Hxk := Lib.hid hxk
        clear hsn hfa hxk hS
        have hok := fun W => ok_any x0 x1 W
        simp only at hsum
        cases h0 : okS ⟨x0, x1⟩ with
        | false =>
          rw [h0] at hok
          have e : mixS xs = (⟨0, 0⟩, 2) := by
            unfold mixS
            rw [if_neg (by have := hn.out; omega), if_pos (Hfa.out h0)]
          have E := Lib.hid e
          clear e h0
          go_wp2_with fail
          refine (hok _).mono ?_
          rintro e w1 ⟨rfl, hb1⟩
          have hz1 := hb1.size
          try simp only [World.size_alloc, World.size_setCell, World.size_drew] at hz1
          have hc1_0 := fun o => hb1.cell (p := ⟨w.heap.size, o, none⟩) (by show w.heap.size < _; first | omega | (simp only [World.size_alloc, World.size_setCell, World.size_drew]; omega))
          have hf1_0 := fun o => hb1.frozen (p := ⟨w.heap.size, o, none⟩) (by show w.heap.size < _; first | omega | (simp only [World.size_alloc, World.size_setCell, World.size_drew]; omega))
          have hz1_0 : w.heap.size < w1.heap.size := by omega
          have hc1_1 := fun o => hb1.cell (p := ⟨w.heap.size + 1, o, none⟩) (by show w.heap.size + 1 < _; first | omega | (simp only [World.size_alloc, World.size_setCell, World.size_drew]; omega))
          have hf1_1 := fun o => hb1.frozen (p := ⟨w.heap.size + 1, o, none⟩) (by show w.heap.size + 1 < _; first | omega | (simp only [World.size_alloc, World.size_setCell, World.size_drew]; omega))
          have hz1_1 : w.heap.size + 1 < w1.heap.size := by omega
          go_wp2
          refine bodyPost_ret (v := .tuple #[.agg #[.int .i64 0, .int .i64 0], .int .i64 2]) (by simp [results, Try.results31, go_sem, cell_set, hc1_0, hc1_1, r0, r1, hs']) rfl ⟨by rw [E.out]; rfl, (by (try show Below _ _ _); repeat (first | (with_reducible refine Below.setCell ?_ (by first | omega | (simp <;> omega)) _) | (with_reducible refine Below.alloc ?_ (by first | omega | (simp <;> omega)) _) | (with_reducible refine Below.drew ?_) | (with_reducible exact Below.refl _ _) | (with_reducible exact hb0) | (with_reducible refine below_call ?_ (by assumption) (by first | omega | (simp <;> omega))) | (with_reducible refine below_call ?_ (Drew.below (by assumption) _) (by first | omega | (simp <;> omega)))))⟩
        | true =>
          rw [h0] at hok
          have hk0 := (okS_iff _).1 h0
          simp only at hk0
          have H0 := Lib.hid h0
          clear h0
          go_wp2_with fail
          refine (hok _).mono ?_
          rintro e w1 ⟨rfl, hb1⟩
          have hz1 := hb1.size
          try simp only [World.size_alloc, World.size_setCell, World.size_drew] at hz1
          have hc1_0 := fun o => hb1.cell (p := ⟨w.heap.size, o, none⟩) (by show w.heap.size < _; first | omega | (simp only [World.size_alloc, World.size_setCell, World.size_drew]; omega))
          have hf1_0 := fun o => hb1.frozen (p := ⟨w.heap.size, o, none⟩) (by show w.heap.size < _; first | omega | (simp only [World.size_alloc, World.size_setCell, World.size_drew]; omega))
          have hz1_0 : w.heap.size < w1.heap.size := by omega
          have hc1_1 := fun o => hb1.cell (p := ⟨w.heap.size + 1, o, none⟩) (by show w.heap.size + 1 < _; first | omega | (simp only [World.size_alloc, World.size_setCell, World.size_drew]; omega))
          have hf1_1 := fun o => hb1.frozen (p := ⟨w.heap.size + 1, o, none⟩) (by show w.heap.size + 1 < _; first | omega | (simp only [World.size_alloc, World.size_setCell, World.size_drew]; omega))
          have hz1_1 : w.heap.size + 1 < w1.heap.size := by omega
          have hc1_b := fun o => hb1.cell (p := ⟨wr.heap.size, o, none⟩) (by show wr.heap.size < _; first | omega | (simp only [World.size_alloc, World.size_setCell, World.size_drew]; omega))
          have hf1_b := fun o => hb1.frozen (p := ⟨wr.heap.size, o, none⟩) (by show wr.heap.size < _; first | omega | (simp only [World.size_alloc, World.size_setCell, World.size_drew]; omega))
          have hz1_b : wr.heap.size < w1.heap.size := by omega
          have g0 : w1.cell? ⟨w.heap.size + 1, 0, none⟩ = some (.int .i64 s0) := by simp [go_sem, hc1_1, a0, hs]
          have g1 : w1.cell? ⟨w.heap.size + 1, 1, none⟩ = some (.int .i64 s1) := by simp [go_sem, hc1_1, a1, hs]
          have g2 : w1.frozen? ⟨w.heap.size + 1, 0, none⟩ = false := by simp [go_sem, hf1_1, af, hs]
          have g3 : w1.frozen? ⟨w.heap.size + 1, 1, none⟩ = false := by simp [go_sem, hf1_1, ag, hs]
          have g4 : w1.cell? ⟨wr.heap.size, 0, none⟩ = some (.int .i64 x0) := by simp [go_sem, hc1_b]
          have g5 : w1.cell? ⟨wr.heap.size, 1, none⟩ = some (.int .i64 x1) := by simp [go_sem, hc1_b]
          have g6 : w1.cell? ⟨w.heap.size, 0, none⟩ = some (.int .i64 0) := by simp [go_sem, hc1_0, r0, hs']
          have g7 : w1.cell? ⟨w.heap.size, 1, none⟩ = some (.int .i64 0) := by simp [go_sem, hc1_0, r1, hs']
          have g8 : w1.frozen? ⟨w.heap.size, 0, none⟩ = false := by simp [go_sem, hf1_0, rf, hs']
          have g9 : w1.frozen? ⟨w.heap.size, 1, none⟩ = false := by simp [go_sem, hf1_0, rg, hs']
          go_wp2_with fail
          go_region
          all_goals
            go_wp2
            go_roundg (n - (k + 1))
            case measure => omega
            case rel =>
              refine ⟨k + 1, by omega, by omega, by go_num, ?_⟩
              exact { below := (by (try show Below _ _ _); repeat (first | (with_reducible refine Below.setCell ?_ (by first | omega | (simp <;> omega)) _) | (with_reducible refine Below.alloc ?_ (by first | omega | (simp <;> omega)) _) | (with_reducible refine Below.drew ?_) | (with_reducible exact Below.refl _ _) | (with_reducible exact hb0) | (with_reducible refine below_call ?_ (by assumption) (by first | omega | (simp <;> omega))) | (with_reducible refine below_call ?_ (Drew.below (by assumption) _) (by first | omega | (simp <;> omega))))), size := (by simp; omega), r0 := (by simp [go_sem, cell_set, g6]), r1 := (by simp [go_sem, cell_set, g7]), rf := (by simp [go_sem, g8]), rg := (by simp [go_sem, g9]), a0 := (by simp [go_sem, cell_set, g0, Hsn.out]), a1 := (by simp [go_sem, cell_set, g1, Hsn.out]), af := (by simp [go_sem, g2]), ag := (by simp [go_sem, g3]), ok := fun j hj => (if e : j = k then (by subst e; rw [Hxk.out]; exact H0.out) else hall'.out j (by omega)) }
      · have hltz : ¬ (k : Int) < (n : Int) := by omega
        have hke : k = n := by omega
        subst hke
        have htk : xs.take k = xs := List.take_of_length_le (by have := hn.out; omega)
        rw [htk] at a0 a1 hsum
        have hall2 : xs.all okS = true := all_take okS R.d xs (fun j hj => hall'.out j (by have := hn.out; omega))
        generalize hS : sumR xs = S at hsum a0 a1
        obtain ⟨s0, s1⟩ := S
        simp only at hsum a0 a1
        have hok := fun W => ok_any s0 s1 W
        have HS := Lib.hid hS
        clear hS hx
        cases h0 : okS ⟨s0, s1⟩ with
        | false =>
          rw [h0] at hok
          have e : mixS xs = (⟨0, 0⟩, 10) := by
            unfold mixS
            rw [if_neg (by have := hn.out; omega), if_neg (by rw [hall2]; decide), HS.out, if_pos h0]
          have E := Lib.hid e
          clear e h0 hall2
          go_wp2_with fail
          refine (hok _).mono ?_
          rintro e w1 ⟨rfl, hb1⟩
          have hz1 := hb1.size
          try simp only [World.size_alloc, World.size_setCell, World.size_drew] at hz1
          have hc1_0 := fun o => hb1.cell (p := ⟨w.heap.size, o, none⟩) (by show w.heap.size < _; first | omega | (simp only [World.size_alloc, World.size_setCell, World.size_drew]; omega))
          have hf1_0 := fun o => hb1.frozen (p := ⟨w.heap.size, o, none⟩) (by show w.heap.size < _; first | omega | (simp only [World.size_alloc, World.size_setCell, World.size_drew]; omega))
          have hz1_0 : w.heap.size < w1.heap.size := by omega
          have hc1_1 := fun o => hb1.cell (p := ⟨w.heap.size + 1, o, none⟩) (by show w.heap.size + 1 < _; first | omega | (simp only [World.size_alloc, World.size_setCell, World.size_drew]; omega))
          have hf1_1 := fun o => hb1.frozen (p := ⟨w.heap.size + 1, o, none⟩) (by show w.heap.size + 1 < _; first | omega | (simp only [World.size_alloc, World.size_setCell, World.size_drew]; omega))
          have hz1_1 : w.heap.size + 1 < w1.heap.size := by omega
          go_wp2
          refine bodyPost_ret (v := .tuple #[.agg #[.int .i64 0, .int .i64 0], .int .i64 10]) (by simp [results, Try.results31, go_sem, cell_set, hc1_0, r0, r1]) rfl ⟨by rw [E.out]; rfl, (by (try show Below _ _ _); repeat (first | (with_reducible refine Below.setCell ?_ (by first | omega | (simp <;> omega)) _) | (with_reducible refine Below.alloc ?_ (by first | omega | (simp <;> omega)) _) | (with_reducible refine Below.drew ?_) | (with_reducible exact Below.refl _ _) | (with_reducible exact hb0) | (with_reducible refine below_call ?_ (by assumption) (by first | omega | (simp <;> omega))) | (with_reducible refine below_call ?_ (Drew.below (by assumption) _) (by first | omega | (simp <;> omega)))))⟩
        | true =>
          rw [h0] at hok
          have e : mixS xs = (⟨s0, s1⟩, 0) := by
            unfold mixS
            rw [if_neg (by have := hn.out; omega), if_neg (by rw [hall2]; decide), HS.out, if_neg (by rw [h0]; decide)]
          have E := Lib.hid e
          clear e h0 hall2
          go_wp2_with fail
          refine (hok _).mono ?_
          rintro e w1 ⟨rfl, hb1⟩
          have hz1 := hb1.size
          try simp only [World.size_alloc, World.size_setCell, World.size_drew] at hz1
          have hc1_0 := fun o => hb1.cell (p := ⟨w.heap.size, o, none⟩) (by show w.heap.size < _; first | omega | (simp only [World.size_alloc, World.size_setCell, World.size_drew]; omega))
          have hf1_0 := fun o => hb1.frozen (p := ⟨w.heap.size, o, none⟩) (by show w.heap.size < _; first | omega | (simp only [World.size_alloc, World.size_setCell, World.size_drew]; omega))
          have hz1_0 : w.heap.size < w1.heap.size := by omega
          have hc1_1 := fun o => hb1.cell (p := ⟨w.heap.size + 1, o, none⟩) (by show w.heap.size + 1 < _; first | omega | (simp only [World.size_alloc, World.size_setCell, World.size_drew]; omega))
          have hf1_1 := fun o => hb1.frozen (p := ⟨w.heap.size + 1, o, none⟩) (by show w.heap.size + 1 < _; first | omega | (simp only [World.size_alloc, World.size_setCell, World.size_drew]; omega))
          have hz1_1 : w.heap.size + 1 < w1.heap.size := by omega
          go_wp2
          refine bodyPost_ret (v := .tuple #[.agg #[.int .i64 s0, .int .i64 s1], .int .i64 0]) (by simp [results, Try.results31, go_sem, cell_set, hc1_0, r0, r1]) rfl ⟨by rw [E.out]; rfl, (by (try show Below _ _ _); repeat (first | (with_reducible refine Below.setCell ?_ (by first | omega | (simp <;> omega)) _) | (with_reducible refine Below.alloc ?_ (by first | omega | (simp <;> omega)) _) | (with_reducible refine Below.drew ?_) | (with_reducible exact Below.refl _ _) | (with_reducible exact hb0) | (with_reducible refine below_call ?_ (by assumption) (by first | omega | (simp <;> omega))) | (with_reducible refine below_call ?_ (Drew.below (by assumption) _) (by first | omega | (simp <;> omega)))))⟩

end Go.Proofs.Ytfohdafijfjefaa
