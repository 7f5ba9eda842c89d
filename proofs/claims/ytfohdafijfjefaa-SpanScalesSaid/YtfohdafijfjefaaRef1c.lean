/- Contracts: the reference of chapter 1: Over. -/
import Derived.Test.YtfohdafijfjefaaRef1b
import Derived.BigRegion
import Derived.Deep.RegionHeld3
import Derived.Deep.DrawnRows
import Derived.Deep.DeepCutAuto
import Derived.Outline
set_option linter.unusedSimpArgs false
set_option linter.unusedVariables false
namespace Go.Proofs.Ytfohdafijfjefaa
open Go.RowKit Go.Shelf
attribute [local go_sem ↓] Go.wp_at_zero Go.wp_at_succ

def ovQ (a b : R) : List (Int × Int) := [(a.lo, b.lo), (a.lo, b.hi), (a.hi, b.lo), (a.hi, b.hi)]
def ovL (l : List (Int × Int)) : Int := l.foldl (fun m q => min m (qLo q.1 q.2)) 4000000000000000
def ovH (l : List (Int × Int)) : Int := l.foldl (fun m q => max m (qHi q.1 q.2)) (-4000000000000000)

structure OvI (w : World) (p q : Nat) (a b : R) (wr : World) : Prop where
  below : Below w.heap.size w wr
  size : w.heap.size + 1 + 1 < wr.heap.size
  sp : p < wr.heap.size
  sq : q < wr.heap.size
  r0 : wr.cell? ⟨w.heap.size + 1 + 1, 0, none⟩ = some (.int .i64 0)
  r1 : wr.cell? ⟨w.heap.size + 1 + 1, 1, none⟩ = some (.int .i64 0)
  rf : wr.frozen? ⟨w.heap.size + 1 + 1, 0, none⟩ = false
  rg : wr.frozen? ⟨w.heap.size + 1 + 1, 1, none⟩ = false
  x0 : wr.cell? ⟨p, 0, none⟩ = some (.int .i64 a.lo)
  x1 : wr.cell? ⟨p, 1, none⟩ = some (.int .i64 a.hi)
  y0 : wr.cell? ⟨q, 0, none⟩ = some (.int .i64 b.lo)
  y1 : wr.cell? ⟨q, 1, none⟩ = some (.int .i64 b.hi)

theorem OvI.drewN {w : World} {p q : Nat} {a b : R} {wr : World} (h : OvI w p q a b wr) (n : Nat) : OvI w p q a b (wr.drewN n) := by
  obtain ⟨W, hW⟩ : ∃ W, wr.drewN n = W := ⟨_, rfl⟩
  have hd : Drew wr W := ⟨n, hW.symm⟩
  have hb := hd.below (wr.heap.size)
  have hs := hd.size
  rw [hW]
  obtain ⟨h1, h2, h3, h4, h5, h6, h7, h8, h9, h10, h11, h12⟩ := h
  exact ⟨h1.trans (hd.below _), by omega, by omega, by omega, (hb.cell (by show w.heap.size + 1 + 1 < _; omega)).trans h5, (hb.cell (by show w.heap.size + 1 + 1 < _; omega)).trans h6, (hb.frozen (by show w.heap.size + 1 + 1 < _; omega)).trans h7, (hb.frozen (by show w.heap.size + 1 + 1 < _; omega)).trans h8,
    (hb.cell (by show p < _; omega)).trans h9, (hb.cell (by show p < _; omega)).trans h10, (hb.cell (by show q < _; omega)).trans h11, (hb.cell (by show q < _; omega)).trans h12⟩

set_option maxRecDepth 100000 in
set_option maxHeartbeats 2000000 in
theorem refOver_any (a0 a1 b0 b1 : Int) (w : World) :
    Calls Try.prog 21 #[.agg #[.int .i64 a0, .int .i64 a1], .agg #[.int .i64 b0, .int .i64 b1]] w fun e w' => e = .returned (RE (overS' ⟨a0, a1⟩ ⟨b0, b1⟩)) ∧ Below w.heap.size w w' := by
  rw [← over_ref]
  have hA := fun W => refRange_any a0 a1 W
  have hB := fun W => refRange_any b0 b1 W
  unfold refOverS
  cases h0 : okR ⟨a0, a1⟩ with
  | false =>
    rw [h0] at hA
    rw [if_pos (.inl rfl)]
    go_enter Try.func21, Try.ntmps21
    go_wp2_with fail
    refine (hA _).mono ?_
    rintro e w1 ⟨rfl, hb1⟩
    have hz1 := hb1.size
    try simp only [World.size_alloc, World.size_setCell] at hz1
    have hc1_0 := fun o => hb1.cell (p := ⟨w.heap.size, o, none⟩) (by show w.heap.size < _; first | omega | (simp only [World.size_alloc, World.size_setCell, World.size_drew]; omega))
    have hf1_0 := fun o => hb1.frozen (p := ⟨w.heap.size, o, none⟩) (by show w.heap.size < _; first | omega | (simp only [World.size_alloc, World.size_setCell, World.size_drew]; omega))
    have hz1_0 : w.heap.size < w1.heap.size := by omega
    have hc1_1 := fun o => hb1.cell (p := ⟨w.heap.size + 1, o, none⟩) (by show w.heap.size + 1 < _; first | omega | (simp only [World.size_alloc, World.size_setCell, World.size_drew]; omega))
    have hf1_1 := fun o => hb1.frozen (p := ⟨w.heap.size + 1, o, none⟩) (by show w.heap.size + 1 < _; first | omega | (simp only [World.size_alloc, World.size_setCell, World.size_drew]; omega))
    have hz1_1 : w.heap.size + 1 < w1.heap.size := by omega
    have hc1_2 := fun o => hb1.cell (p := ⟨w.heap.size + 1 + 1, o, none⟩) (by show w.heap.size + 1 + 1 < _; first | omega | (simp only [World.size_alloc, World.size_setCell, World.size_drew]; omega))
    have hf1_2 := fun o => hb1.frozen (p := ⟨w.heap.size + 1 + 1, o, none⟩) (by show w.heap.size + 1 + 1 < _; first | omega | (simp only [World.size_alloc, World.size_setCell, World.size_drew]; omega))
    have hz1_2 : w.heap.size + 1 + 1 < w1.heap.size := by omega
    go_wp2
    refine bodyPost_ret (v := .tuple #[.agg #[.int .i64 0, .int .i64 0], .int .i64 2]) (by simp [results, Try.results21, go_sem, cell_set, hc1_0, hc1_1, hc1_2]) rfl ⟨rfl, (by (try show Below _ _ _); repeat (first | (with_reducible refine Below.setCell ?_ (by first | omega | (simp <;> omega)) _) | (with_reducible refine Below.alloc ?_ (by first | omega | (simp <;> omega)) _) | (with_reducible refine Below.drew ?_) | (with_reducible exact Below.refl _ _) | (with_reducible refine below_call ?_ (by assumption) (by first | omega | (simp <;> omega))) | (with_reducible refine below_call ?_ (Drew.below (by assumption) _) (by first | omega | (simp <;> omega)))))⟩
  | true =>
    have k0 := (okR_iff _).1 h0
    simp only at k0
    rw [h0] at hA
    cases h1 : okR ⟨b0, b1⟩ with
    | false =>
      rw [h1] at hB
      rw [if_pos (.inr rfl)]
      go_enter Try.func21, Try.ntmps21
      go_wp2_with fail
      refine (hA _).mono ?_
      rintro e w1 ⟨rfl, hb1⟩
      have hz1 := hb1.size
      try simp only [World.size_alloc, World.size_setCell] at hz1
      have hc1_0 := fun o => hb1.cell (p := ⟨w.heap.size, o, none⟩) (by show w.heap.size < _; first | omega | (simp only [World.size_alloc, World.size_setCell, World.size_drew]; omega))
      have hf1_0 := fun o => hb1.frozen (p := ⟨w.heap.size, o, none⟩) (by show w.heap.size < _; first | omega | (simp only [World.size_alloc, World.size_setCell, World.size_drew]; omega))
      have hz1_0 : w.heap.size < w1.heap.size := by omega
      have hc1_1 := fun o => hb1.cell (p := ⟨w.heap.size + 1, o, none⟩) (by show w.heap.size + 1 < _; first | omega | (simp only [World.size_alloc, World.size_setCell, World.size_drew]; omega))
      have hf1_1 := fun o => hb1.frozen (p := ⟨w.heap.size + 1, o, none⟩) (by show w.heap.size + 1 < _; first | omega | (simp only [World.size_alloc, World.size_setCell, World.size_drew]; omega))
      have hz1_1 : w.heap.size + 1 < w1.heap.size := by omega
      have hc1_2 := fun o => hb1.cell (p := ⟨w.heap.size + 1 + 1, o, none⟩) (by show w.heap.size + 1 + 1 < _; first | omega | (simp only [World.size_alloc, World.size_setCell, World.size_drew]; omega))
      have hf1_2 := fun o => hb1.frozen (p := ⟨w.heap.size + 1 + 1, o, none⟩) (by show w.heap.size + 1 + 1 < _; first | omega | (simp only [World.size_alloc, World.size_setCell, World.size_drew]; omega))
      have hz1_2 : w.heap.size + 1 + 1 < w1.heap.size := by omega
      go_wp2_with fail
      refine (hB _).mono ?_
      rintro e w2 ⟨rfl, hb2⟩
      have hz2 := hb2.size
      try simp only [World.size_alloc, World.size_setCell] at hz2
      have hc2_0 := fun o => hb2.cell (p := ⟨w.heap.size, o, none⟩) (by show w.heap.size < _; first | omega | (simp only [World.size_alloc, World.size_setCell, World.size_drew]; omega))
      have hf2_0 := fun o => hb2.frozen (p := ⟨w.heap.size, o, none⟩) (by show w.heap.size < _; first | omega | (simp only [World.size_alloc, World.size_setCell, World.size_drew]; omega))
      have hz2_0 : w.heap.size < w2.heap.size := by omega
      have hc2_1 := fun o => hb2.cell (p := ⟨w.heap.size + 1, o, none⟩) (by show w.heap.size + 1 < _; first | omega | (simp only [World.size_alloc, World.size_setCell, World.size_drew]; omega))
      have hf2_1 := fun o => hb2.frozen (p := ⟨w.heap.size + 1, o, none⟩) (by show w.heap.size + 1 < _; first | omega | (simp only [World.size_alloc, World.size_setCell, World.size_drew]; omega))
      have hz2_1 : w.heap.size + 1 < w2.heap.size := by omega
      have hc2_2 := fun o => hb2.cell (p := ⟨w.heap.size + 1 + 1, o, none⟩) (by show w.heap.size + 1 + 1 < _; first | omega | (simp only [World.size_alloc, World.size_setCell, World.size_drew]; omega))
      have hf2_2 := fun o => hb2.frozen (p := ⟨w.heap.size + 1 + 1, o, none⟩) (by show w.heap.size + 1 + 1 < _; first | omega | (simp only [World.size_alloc, World.size_setCell, World.size_drew]; omega))
      have hz2_2 : w.heap.size + 1 + 1 < w2.heap.size := by omega
      go_wp2
      refine bodyPost_ret (v := .tuple #[.agg #[.int .i64 0, .int .i64 0], .int .i64 2]) (by simp [results, Try.results21, go_sem, cell_set, hc1_0, hc1_1, hc1_2, hc2_0, hc2_1, hc2_2, hz1_0, hz1_1, hz1_2]) rfl ⟨rfl, (by (try show Below _ _ _); repeat (first | (with_reducible refine Below.setCell ?_ (by first | omega | (simp <;> omega)) _) | (with_reducible refine Below.alloc ?_ (by first | omega | (simp <;> omega)) _) | (with_reducible refine Below.drew ?_) | (with_reducible exact Below.refl _ _) | (with_reducible refine below_call ?_ (by assumption) (by first | omega | (simp <;> omega))) | (with_reducible refine below_call ?_ (Drew.below (by assumption) _) (by first | omega | (simp <;> omega)))))⟩
    | true =>
      have k1 := (okR_iff _).1 h1
      simp only at k1
      rw [h1] at hB
      rw [if_neg (by simp)]
      by_cases h2 : b0 ≤ 0 ∧ 0 ≤ b1
      · rw [if_pos h2]
        obtain ⟨h3, h4⟩ := h2
        go_enter Try.func21, Try.ntmps21
        go_wp2_with fail
        refine (hA _).mono ?_
        rintro e w1 ⟨rfl, hb1⟩
        have hz1 := hb1.size
        try simp only [World.size_alloc, World.size_setCell] at hz1
        have hc1_0 := fun o => hb1.cell (p := ⟨w.heap.size, o, none⟩) (by show w.heap.size < _; first | omega | (simp only [World.size_alloc, World.size_setCell, World.size_drew]; omega))
        have hf1_0 := fun o => hb1.frozen (p := ⟨w.heap.size, o, none⟩) (by show w.heap.size < _; first | omega | (simp only [World.size_alloc, World.size_setCell, World.size_drew]; omega))
        have hz1_0 : w.heap.size < w1.heap.size := by omega
        have hc1_1 := fun o => hb1.cell (p := ⟨w.heap.size + 1, o, none⟩) (by show w.heap.size + 1 < _; first | omega | (simp only [World.size_alloc, World.size_setCell, World.size_drew]; omega))
        have hf1_1 := fun o => hb1.frozen (p := ⟨w.heap.size + 1, o, none⟩) (by show w.heap.size + 1 < _; first | omega | (simp only [World.size_alloc, World.size_setCell, World.size_drew]; omega))
        have hz1_1 : w.heap.size + 1 < w1.heap.size := by omega
        have hc1_2 := fun o => hb1.cell (p := ⟨w.heap.size + 1 + 1, o, none⟩) (by show w.heap.size + 1 + 1 < _; first | omega | (simp only [World.size_alloc, World.size_setCell, World.size_drew]; omega))
        have hf1_2 := fun o => hb1.frozen (p := ⟨w.heap.size + 1 + 1, o, none⟩) (by show w.heap.size + 1 + 1 < _; first | omega | (simp only [World.size_alloc, World.size_setCell, World.size_drew]; omega))
        have hz1_2 : w.heap.size + 1 + 1 < w1.heap.size := by omega
        go_wp2_with fail
        refine (hB _).mono ?_
        rintro e w2 ⟨rfl, hb2⟩
        have hz2 := hb2.size
        try simp only [World.size_alloc, World.size_setCell] at hz2
        have hc2_0 := fun o => hb2.cell (p := ⟨w.heap.size, o, none⟩) (by show w.heap.size < _; first | omega | (simp only [World.size_alloc, World.size_setCell, World.size_drew]; omega))
        have hf2_0 := fun o => hb2.frozen (p := ⟨w.heap.size, o, none⟩) (by show w.heap.size < _; first | omega | (simp only [World.size_alloc, World.size_setCell, World.size_drew]; omega))
        have hz2_0 : w.heap.size < w2.heap.size := by omega
        have hc2_1 := fun o => hb2.cell (p := ⟨w.heap.size + 1, o, none⟩) (by show w.heap.size + 1 < _; first | omega | (simp only [World.size_alloc, World.size_setCell, World.size_drew]; omega))
        have hf2_1 := fun o => hb2.frozen (p := ⟨w.heap.size + 1, o, none⟩) (by show w.heap.size + 1 < _; first | omega | (simp only [World.size_alloc, World.size_setCell, World.size_drew]; omega))
        have hz2_1 : w.heap.size + 1 < w2.heap.size := by omega
        have hc2_2 := fun o => hb2.cell (p := ⟨w.heap.size + 1 + 1, o, none⟩) (by show w.heap.size + 1 + 1 < _; first | omega | (simp only [World.size_alloc, World.size_setCell, World.size_drew]; omega))
        have hf2_2 := fun o => hb2.frozen (p := ⟨w.heap.size + 1 + 1, o, none⟩) (by show w.heap.size + 1 + 1 < _; first | omega | (simp only [World.size_alloc, World.size_setCell, World.size_drew]; omega))
        have hz2_2 : w.heap.size + 1 + 1 < w2.heap.size := by omega
        go_wp2
        refine bodyPost_ret (v := .tuple #[.agg #[.int .i64 0, .int .i64 0], .int .i64 3]) (by simp [results, Try.results21, go_sem, cell_set, hc1_0, hc1_1, hc1_2, hc2_0, hc2_1, hc2_2, hz1_0, hz1_1, hz1_2]) rfl ⟨rfl, (by (try show Below _ _ _); repeat (first | (with_reducible refine Below.setCell ?_ (by first | omega | (simp <;> omega)) _) | (with_reducible refine Below.alloc ?_ (by first | omega | (simp <;> omega)) _) | (with_reducible refine Below.drew ?_) | (with_reducible exact Below.refl _ _) | (with_reducible refine below_call ?_ (by assumption) (by first | omega | (simp <;> omega))) | (with_reducible refine below_call ?_ (Drew.below (by assumption) _) (by first | omega | (simp <;> omega)))))⟩
      · rw [if_neg h2]
        have hL : ovL (ovQ ⟨a0, a1⟩ ⟨b0, b1⟩) = min (min (min (min 4000000000000000 (qLo a0 b0)) (qLo a0 b1)) (qLo a1 b0)) (qLo a1 b1) := rfl
        have hH : ovH (ovQ ⟨a0, a1⟩ ⟨b0, b1⟩) = max (max (max (max (-4000000000000000) (qHi a0 b0)) (qHi a0 b1)) (qHi a1 b0)) (qHi a1 b1) := rfl
        simp only
        rw [← hL, ← hH]
        have hf := fun W => fits_any (ovL (ovQ ⟨a0, a1⟩ ⟨b0, b1⟩)) (ovH (ovQ ⟨a0, a1⟩ ⟨b0, b1⟩)) W
        generalize hrr : madeS (ovL (ovQ ⟨a0, a1⟩ ⟨b0, b1⟩)) (ovH (ovQ ⟨a0, a1⟩ ⟨b0, b1⟩)) = rr at hf ⊢
        unfold RE at hf ⊢
        have h2' : 0 < b0 ∨ b1 < 0 := by omega
        have H2 := Lib.hid h2'
        clear hL hH h2' hrr
        have hbb : ¬ (b0 ≤ 0) ∨ (b0 ≤ 0 ∧ ¬ 0 ≤ b1) := by omega
        clear h2
        go_enter Try.func21, Try.ntmps21
        go_wp2_with fail
        refine (hA _).mono ?_
        rintro e w1 ⟨rfl, hb1⟩
        have hz1 := hb1.size
        try simp only [World.size_alloc, World.size_setCell] at hz1
        have hc1_0 := fun o => hb1.cell (p := ⟨w.heap.size, o, none⟩) (by show w.heap.size < _; first | omega | (simp only [World.size_alloc, World.size_setCell, World.size_drew]; omega))
        have hf1_0 := fun o => hb1.frozen (p := ⟨w.heap.size, o, none⟩) (by show w.heap.size < _; first | omega | (simp only [World.size_alloc, World.size_setCell, World.size_drew]; omega))
        have hz1_0 : w.heap.size < w1.heap.size := by omega
        have hc1_1 := fun o => hb1.cell (p := ⟨w.heap.size + 1, o, none⟩) (by show w.heap.size + 1 < _; first | omega | (simp only [World.size_alloc, World.size_setCell, World.size_drew]; omega))
        have hf1_1 := fun o => hb1.frozen (p := ⟨w.heap.size + 1, o, none⟩) (by show w.heap.size + 1 < _; first | omega | (simp only [World.size_alloc, World.size_setCell, World.size_drew]; omega))
        have hz1_1 : w.heap.size + 1 < w1.heap.size := by omega
        have hc1_2 := fun o => hb1.cell (p := ⟨w.heap.size + 1 + 1, o, none⟩) (by show w.heap.size + 1 + 1 < _; first | omega | (simp only [World.size_alloc, World.size_setCell, World.size_drew]; omega))
        have hf1_2 := fun o => hb1.frozen (p := ⟨w.heap.size + 1 + 1, o, none⟩) (by show w.heap.size + 1 + 1 < _; first | omega | (simp only [World.size_alloc, World.size_setCell, World.size_drew]; omega))
        have hz1_2 : w.heap.size + 1 + 1 < w1.heap.size := by omega
        go_wp2_with fail
        refine (hB _).mono ?_
        rintro e w2 ⟨rfl, hb2⟩
        have hz2 := hb2.size
        try simp only [World.size_alloc, World.size_setCell] at hz2
        have hc2_0 := fun o => hb2.cell (p := ⟨w.heap.size, o, none⟩) (by show w.heap.size < _; first | omega | (simp only [World.size_alloc, World.size_setCell, World.size_drew]; omega))
        have hf2_0 := fun o => hb2.frozen (p := ⟨w.heap.size, o, none⟩) (by show w.heap.size < _; first | omega | (simp only [World.size_alloc, World.size_setCell, World.size_drew]; omega))
        have hz2_0 : w.heap.size < w2.heap.size := by omega
        have hc2_1 := fun o => hb2.cell (p := ⟨w.heap.size + 1, o, none⟩) (by show w.heap.size + 1 < _; first | omega | (simp only [World.size_alloc, World.size_setCell, World.size_drew]; omega))
        have hf2_1 := fun o => hb2.frozen (p := ⟨w.heap.size + 1, o, none⟩) (by show w.heap.size + 1 < _; first | omega | (simp only [World.size_alloc, World.size_setCell, World.size_drew]; omega))
        have hz2_1 : w.heap.size + 1 < w2.heap.size := by omega
        have hc2_2 := fun o => hb2.cell (p := ⟨w.heap.size + 1 + 1, o, none⟩) (by show w.heap.size + 1 + 1 < _; first | omega | (simp only [World.size_alloc, World.size_setCell, World.size_drew]; omega))
        have hf2_2 := fun o => hb2.frozen (p := ⟨w.heap.size + 1 + 1, o, none⟩) (by show w.heap.size + 1 + 1 < _; first | omega | (simp only [World.size_alloc, World.size_setCell, World.size_drew]; omega))
        have hz2_2 : w.heap.size + 1 + 1 < w2.heap.size := by omega
        go_upto_region 3 with (fail)
        go_cut [29] (fun s29 wx => s29 = .bool false ∧ w2 = wx)
        case first =>
          rcases hbb with h3 | ⟨h3, h4⟩
          all_goals
            go_wp2_with fail
            go_meet
            exact ⟨by first | rfl | (simp only [Value.bool.injEq, decide_eq_false_iff_not]; omega), rfl⟩
        case rest =>
          obtain ⟨rfl, hw⟩ := hcut
          subst hw
          clear hbb
          go_upto_region 6 with (fail)
          go_cut [8, 9] (fun s8 s9 wx => ∃ p q : Nat, s8 = .pointer (some ⟨p, 0, none⟩) ∧ s9 = .pointer (some ⟨q, 0, none⟩) ∧ Aside (OvI w p q ⟨a0, a1⟩ ⟨b0, b1⟩ wx))
          case first =>
            have f0 : w2.cell? ⟨w.heap.size, 0, none⟩ = some (.int .i64 a0) := by simp [go_sem, hc2_0, hc1_0, hz1_0]
            have f1 : w2.cell? ⟨w.heap.size, 1, none⟩ = some (.int .i64 a1) := by simp [go_sem, hc2_0, hc1_0, hz1_0]
            have f2 : w2.cell? ⟨w.heap.size + 1, 0, none⟩ = some (.int .i64 b0) := by simp [go_sem, hc2_1, hc1_1, hz1_1]
            have f3 : w2.cell? ⟨w.heap.size + 1, 1, none⟩ = some (.int .i64 b1) := by simp [go_sem, hc2_1, hc1_1, hz1_1]
            have f4 : w2.cell? ⟨w.heap.size + 1 + 1, 0, none⟩ = some (.int .i64 0) := by simp [go_sem, hc2_2, hc1_2, hz1_2]
            have f5 : w2.cell? ⟨w.heap.size + 1 + 1, 1, none⟩ = some (.int .i64 0) := by simp [go_sem, hc2_2, hc1_2, hz1_2]
            have f6 : w2.frozen? ⟨w.heap.size + 1 + 1, 0, none⟩ = false := by simp [go_sem, hf2_2, hf1_2, hz1_2]
            have f7 : w2.frozen? ⟨w.heap.size + 1 + 1, 1, none⟩ = false := by simp [go_sem, hf2_2, hf1_2, hz1_2]
            have hB2 : Below w.heap.size w w2 := (by (try show Below _ _ _); repeat (first | (with_reducible refine Below.setCell ?_ (by first | omega | (simp <;> omega)) _) | (with_reducible refine Below.alloc ?_ (by first | omega | (simp <;> omega)) _) | (with_reducible refine Below.drew ?_) | (with_reducible exact Below.refl _ _) | (with_reducible refine below_call ?_ (by assumption) (by first | omega | (simp <;> omega))) | (with_reducible refine below_call ?_ (Drew.below (by assumption) _) (by first | omega | (simp <;> omega)))))
            have hz2_3 : w.heap.size + 1 + 1 < w2.heap.size + 1 := by omega
            clear hc1_0 hc1_1 hc1_2 hf1_0 hf1_1 hf1_2 hc2_0 hc2_1 hc2_2 hf2_0 hf2_1 hf2_2 hb1 hb2 hA hB hf
            go_region_held3 (fun w' => w'.cell? ⟨w.heap.size, 0, none⟩ = some (.int .i64 a0) ∧ w'.cell? ⟨w.heap.size, 1, none⟩ = some (.int .i64 a1) ∧ w'.cell? ⟨w.heap.size + 1, 0, none⟩ = some (.int .i64 b0) ∧ w'.cell? ⟨w.heap.size + 1, 1, none⟩ = some (.int .i64 b1)) (go_keep) (fail)
            all_goals
              go_wp2_with fail
              go_meet
              exact ⟨_, _, rfl, rfl, { below := (by (try show Below _ _ _); repeat (first | (with_reducible refine Below.setCell ?_ (by first | omega | (simp <;> omega)) _) | (with_reducible refine Below.alloc ?_ (by first | omega | (simp <;> omega)) _) | (with_reducible refine Below.drew ?_) | (with_reducible exact Below.refl _ _) | (with_reducible exact hB2) | (with_reducible refine below_call ?_ (by assumption) (by first | omega | (simp <;> omega))) | (with_reducible refine below_call ?_ (Drew.below (by assumption) _) (by first | omega | (simp <;> omega))))), size := (by simp; omega), sp := (by simp <;> omega), sq := (by simp <;> omega), r0 := (by simp [go_sem, cell_set, f4, hz2_2, hz2_3]), r1 := (by simp [go_sem, cell_set, f5, hz2_2, hz2_3]), rf := (by simp [go_sem, f6, hz2_2, hz2_3]), rg := (by simp [go_sem, f7, hz2_2, hz2_3]), x0 := (by simp [go_sem, cell_set]), x1 := (by simp [go_sem, cell_set]), y0 := (by simp [go_sem, cell_set]), y1 := (by simp [go_sem, cell_set]) }⟩
          case rest =>
            obtain ⟨p, q, rfl, rfl, I⟩ := hcut
            obtain ⟨wx, hwx, I'⟩ : ∃ wx, wx = _ ∧ OvI w p q ⟨a0, a1⟩ ⟨b0, b1⟩ wx := ⟨_, rfl, I.out⟩
            subst hwx
            clear I hA hB hc1_0 hc1_1 hc1_2 hf1_0 hf1_1 hf1_2 hc2_0 hc2_1 hc2_2 hf2_0 hf2_1 hf2_2 hb1 hb2 hz1 hz2 hz1_0 hz1_1 hz1_2 hz2_0 hz2_1 hz2_2
            have J := Lib.hid I'
            clear I'
            go_wp2
            go_loopg [6, 7, 10] (4) (fun gg s6 s7 i wr => ∃ k : Nat, k ≤ 4 ∧ 4 - k ≤ gg ∧ i = .int .i64 k ∧ s6 = .int .i64 (ovL ((ovQ ⟨a0, a1⟩ ⟨b0, b1⟩).take k)) ∧ s7 = .int .i64 (ovH ((ovQ ⟨a0, a1⟩ ⟨b0, b1⟩).take k)) ∧ Aside (OvI w p q ⟨a0, a1⟩ ⟨b0, b1⟩ wr))
            case atStart => exact ⟨0, by omega, by omega, rfl, rfl, rfl, J.out⟩
            case round =>
              obtain ⟨k, hk, hg, rfl, rfl, rfl, I⟩ := hrel
              obtain ⟨hbe, hsz, hsp, hsq, r0, r1, rf, rg, x0, x1, y0, y1⟩ := I.out
              simp only at x0 x1 y0 y1
              have hcases : k = 0 ∨ k = 1 ∨ k = 2 ∨ k = 3 ∨ k = 4 := by omega
              rcases hcases with rfl | rfl | rfl | rfl | rfl
              · have hd1 : b0 ≠ 0 := by have := H2.out; omega
                have hn1 : -1000000000000000 ≤ a0 ∧ a0 ≤ 1000000000000000 := by omega
                have hm1 : -1000000000000000 ≤ b0 ∧ b0 ≤ 1000000000000000 := by omega
                by_cases hd : b0 < 0
                · have hF := fun W => floor_any (-a0) (-b0) (by omega) (by omega) W
                  have hC := fun W => ceil_any (-a0) (-b0) (by omega) (by omega) W
                  have eL : qLo a0 b0 = -a0 / -b0 := by unfold qLo; rw [if_pos hd]
                  have eH : qHi a0 b0 = cdiv (-a0) (-b0) := by unfold qHi; rw [if_pos hd]
                  rw [← eL] at hF
                  rw [← eH] at hC
                  clear eL eH hf hd1
                  go_wp2_with fail
                  go_quiet (fail)
                  go_wp2_with fail
                  refine (hF _).mono ?_
                  rintro e w0x ⟨rfl, rfl⟩
                  go_wp2_with fail
                  refine (hC _).mono ?_
                  rintro e w0x ⟨rfl, rfl⟩
                  go_wp2
                  go_roundg (4 - (0 + 1))
                  case measure => omega
                  case rel => exact ⟨0 + 1, by omega, by omega, rfl, rfl, rfl, I.out.drewN _⟩
                · have hF := fun W => floor_any a0 b0 (by omega) (by omega) W
                  have hC := fun W => ceil_any a0 b0 (by omega) (by omega) W
                  have eL : qLo a0 b0 = a0 / b0 := by unfold qLo; rw [if_neg hd]
                  have eH : qHi a0 b0 = cdiv a0 b0 := by unfold qHi; rw [if_neg hd]
                  rw [← eL] at hF
                  rw [← eH] at hC
                  clear eL eH hf hd1
                  go_wp2_with fail
                  go_quiet (fail)
                  go_wp2_with fail
                  refine (hF _).mono ?_
                  rintro e w0x ⟨rfl, rfl⟩
                  go_wp2_with fail
                  refine (hC _).mono ?_
                  rintro e w0x ⟨rfl, rfl⟩
                  go_wp2
                  go_roundg (4 - (0 + 1))
                  case measure => omega
                  case rel => exact ⟨0 + 1, by omega, by omega, rfl, rfl, rfl, I.out.drewN _⟩
              · have hd1 : b1 ≠ 0 := by have := H2.out; omega
                have hn1 : -1000000000000000 ≤ a0 ∧ a0 ≤ 1000000000000000 := by omega
                have hm1 : -1000000000000000 ≤ b1 ∧ b1 ≤ 1000000000000000 := by omega
                by_cases hd : b1 < 0
                · have hF := fun W => floor_any (-a0) (-b1) (by omega) (by omega) W
                  have hC := fun W => ceil_any (-a0) (-b1) (by omega) (by omega) W
                  have eL : qLo a0 b1 = -a0 / -b1 := by unfold qLo; rw [if_pos hd]
                  have eH : qHi a0 b1 = cdiv (-a0) (-b1) := by unfold qHi; rw [if_pos hd]
                  rw [← eL] at hF
                  rw [← eH] at hC
                  clear eL eH hf hd1
                  go_wp2_with fail
                  go_quiet (fail)
                  go_wp2_with fail
                  refine (hF _).mono ?_
                  rintro e w0x ⟨rfl, rfl⟩
                  go_wp2_with fail
                  refine (hC _).mono ?_
                  rintro e w0x ⟨rfl, rfl⟩
                  go_wp2
                  go_roundg (4 - (1 + 1))
                  case measure => omega
                  case rel => exact ⟨1 + 1, by omega, by omega, rfl, rfl, rfl, I.out.drewN _⟩
                · have hF := fun W => floor_any a0 b1 (by omega) (by omega) W
                  have hC := fun W => ceil_any a0 b1 (by omega) (by omega) W
                  have eL : qLo a0 b1 = a0 / b1 := by unfold qLo; rw [if_neg hd]
                  have eH : qHi a0 b1 = cdiv a0 b1 := by unfold qHi; rw [if_neg hd]
                  rw [← eL] at hF
                  rw [← eH] at hC
                  clear eL eH hf hd1
                  go_wp2_with fail
                  go_quiet (fail)
                  go_wp2_with fail
                  refine (hF _).mono ?_
                  rintro e w0x ⟨rfl, rfl⟩
                  go_wp2_with fail
                  refine (hC _).mono ?_
                  rintro e w0x ⟨rfl, rfl⟩
                  go_wp2
                  go_roundg (4 - (1 + 1))
                  case measure => omega
                  case rel => exact ⟨1 + 1, by omega, by omega, rfl, rfl, rfl, I.out.drewN _⟩
              · have hd1 : b0 ≠ 0 := by have := H2.out; omega
                have hn1 : -1000000000000000 ≤ a1 ∧ a1 ≤ 1000000000000000 := by omega
                have hm1 : -1000000000000000 ≤ b0 ∧ b0 ≤ 1000000000000000 := by omega
                by_cases hd : b0 < 0
                · have hF := fun W => floor_any (-a1) (-b0) (by omega) (by omega) W
                  have hC := fun W => ceil_any (-a1) (-b0) (by omega) (by omega) W
                  have eL : qLo a1 b0 = -a1 / -b0 := by unfold qLo; rw [if_pos hd]
                  have eH : qHi a1 b0 = cdiv (-a1) (-b0) := by unfold qHi; rw [if_pos hd]
                  rw [← eL] at hF
                  rw [← eH] at hC
                  clear eL eH hf hd1
                  go_wp2_with fail
                  go_quiet (fail)
                  go_wp2_with fail
                  refine (hF _).mono ?_
                  rintro e w0x ⟨rfl, rfl⟩
                  go_wp2_with fail
                  refine (hC _).mono ?_
                  rintro e w0x ⟨rfl, rfl⟩
                  go_wp2
                  go_roundg (4 - (2 + 1))
                  case measure => omega
                  case rel => exact ⟨2 + 1, by omega, by omega, rfl, rfl, rfl, I.out.drewN _⟩
                · have hF := fun W => floor_any a1 b0 (by omega) (by omega) W
                  have hC := fun W => ceil_any a1 b0 (by omega) (by omega) W
                  have eL : qLo a1 b0 = a1 / b0 := by unfold qLo; rw [if_neg hd]
                  have eH : qHi a1 b0 = cdiv a1 b0 := by unfold qHi; rw [if_neg hd]
                  rw [← eL] at hF
                  rw [← eH] at hC
                  clear eL eH hf hd1
                  go_wp2_with fail
                  go_quiet (fail)
                  go_wp2_with fail
                  refine (hF _).mono ?_
                  rintro e w0x ⟨rfl, rfl⟩
                  go_wp2_with fail
                  refine (hC _).mono ?_
                  rintro e w0x ⟨rfl, rfl⟩
                  go_wp2
                  go_roundg (4 - (2 + 1))
                  case measure => omega
                  case rel => exact ⟨2 + 1, by omega, by omega, rfl, rfl, rfl, I.out.drewN _⟩
              · have hd1 : b1 ≠ 0 := by have := H2.out; omega
                have hn1 : -1000000000000000 ≤ a1 ∧ a1 ≤ 1000000000000000 := by omega
                have hm1 : -1000000000000000 ≤ b1 ∧ b1 ≤ 1000000000000000 := by omega
                by_cases hd : b1 < 0
                · have hF := fun W => floor_any (-a1) (-b1) (by omega) (by omega) W
                  have hC := fun W => ceil_any (-a1) (-b1) (by omega) (by omega) W
                  have eL : qLo a1 b1 = -a1 / -b1 := by unfold qLo; rw [if_pos hd]
                  have eH : qHi a1 b1 = cdiv (-a1) (-b1) := by unfold qHi; rw [if_pos hd]
                  rw [← eL] at hF
                  rw [← eH] at hC
                  clear eL eH hf hd1
                  go_wp2_with fail
                  go_quiet (fail)
                  go_wp2_with fail
                  refine (hF _).mono ?_
                  rintro e w0x ⟨rfl, rfl⟩
                  go_wp2_with fail
                  refine (hC _).mono ?_
                  rintro e w0x ⟨rfl, rfl⟩
                  go_wp2
                  go_roundg (4 - (3 + 1))
                  case measure => omega
                  case rel => exact ⟨3 + 1, by omega, by omega, rfl, rfl, rfl, I.out.drewN _⟩
                · have hF := fun W => floor_any a1 b1 (by omega) (by omega) W
                  have hC := fun W => ceil_any a1 b1 (by omega) (by omega) W
                  have eL : qLo a1 b1 = a1 / b1 := by unfold qLo; rw [if_neg hd]
                  have eH : qHi a1 b1 = cdiv a1 b1 := by unfold qHi; rw [if_neg hd]
                  rw [← eL] at hF
                  rw [← eH] at hC
                  clear eL eH hf hd1
                  go_wp2_with fail
                  go_quiet (fail)
                  go_wp2_with fail
                  refine (hF _).mono ?_
                  rintro e w0x ⟨rfl, rfl⟩
                  go_wp2_with fail
                  refine (hC _).mono ?_
                  rintro e w0x ⟨rfl, rfl⟩
                  go_wp2
                  go_roundg (4 - (3 + 1))
                  case measure => omega
                  case rel => exact ⟨3 + 1, by omega, by omega, rfl, rfl, rfl, I.out.drewN _⟩
              · have ht : (ovQ ⟨a0, a1⟩ ⟨b0, b1⟩).take 4 = ovQ ⟨a0, a1⟩ ⟨b0, b1⟩ := rfl
                rw [ht]
                clear ht
                go_wp2_with fail
                refine (hf _).mono ?_
                rintro e w5 ⟨rfl, hb5⟩
                have hz5 := hb5.size
                try simp only [World.size_alloc, World.size_setCell] at hz5
                have hc5_0 := fun o => hb5.cell (p := ⟨w.heap.size, o, none⟩) (by show w.heap.size < _; first | omega | (simp only [World.size_alloc, World.size_setCell, World.size_drew]; omega))
                have hf5_0 := fun o => hb5.frozen (p := ⟨w.heap.size, o, none⟩) (by show w.heap.size < _; first | omega | (simp only [World.size_alloc, World.size_setCell, World.size_drew]; omega))
                have hz5_0 : w.heap.size < w5.heap.size := by omega
                have hc5_1 := fun o => hb5.cell (p := ⟨w.heap.size + 1, o, none⟩) (by show w.heap.size + 1 < _; first | omega | (simp only [World.size_alloc, World.size_setCell, World.size_drew]; omega))
                have hf5_1 := fun o => hb5.frozen (p := ⟨w.heap.size + 1, o, none⟩) (by show w.heap.size + 1 < _; first | omega | (simp only [World.size_alloc, World.size_setCell, World.size_drew]; omega))
                have hz5_1 : w.heap.size + 1 < w5.heap.size := by omega
                have hc5_2 := fun o => hb5.cell (p := ⟨w.heap.size + 1 + 1, o, none⟩) (by show w.heap.size + 1 + 1 < _; first | omega | (simp only [World.size_alloc, World.size_setCell, World.size_drew]; omega))
                have hf5_2 := fun o => hb5.frozen (p := ⟨w.heap.size + 1 + 1, o, none⟩) (by show w.heap.size + 1 + 1 < _; first | omega | (simp only [World.size_alloc, World.size_setCell, World.size_drew]; omega))
                have hz5_2 : w.heap.size + 1 + 1 < w5.heap.size := by omega
                go_wp2
                refine bodyPost_ret (v := .tuple #[.agg #[.int .i64 rr.1.lo, .int .i64 rr.1.hi], .int .i64 rr.2]) (by simp [results, Try.results21, go_sem, cell_set, hc5_2, r0, r1]) rfl ⟨rfl, (by (try show Below _ _ _); repeat (first | (with_reducible refine Below.setCell ?_ (by first | omega | (simp <;> omega)) _) | (with_reducible refine Below.alloc ?_ (by first | omega | (simp <;> omega)) _) | (with_reducible refine Below.drew ?_) | (with_reducible exact Below.refl _ _) | (with_reducible refine below_call ?_ (by assumption) (by first | omega | (simp <;> omega))) | (with_reducible refine below_call ?_ (Drew.below (by assumption) _) (by first | omega | (simp <;> omega)))))⟩

end Go.Proofs.Ytfohdafijfjefaa
