/- Contracts: the reference's Lowest, MakePart, Compare, Of. -/
import Derived.Test.YtfohdafijfjefaaRef3
set_option linter.unusedSimpArgs false
set_option linter.unusedVariables false
namespace Go.Proofs.Ytfohdafijfjefaa
open Go.RowKit Go.Shelf

set_option maxHeartbeats 1000000 in
theorem refLowest_any (num den : Int) (hnum : -9223372036854775807 ≤ num ∧ num ≤ 9223372036854775807) (hden : -9223372036854775807 ≤ den ∧ den ≤ 9223372036854775807) (h0 : den ≠ 0) (w : World) :
    Calls Try.prog 57 #[.int .i64 num, .int .i64 den] w fun e w' => e = .returned (RE (lowestS num den)) ∧ Below w.heap.size w w' := by
  have hD := fun W => refDivisor_any num den hnum hden W
  obtain ⟨d1, d2⟩ := divS_le num den h0
  unfold lowestS
  by_cases hs : den < 0
  all_goals
    simp only [hs, if_true, if_false]
  · have hne : -divS num den ≠ 0 := by omega
    have t1 := tdiv_le num _ hne
    have t2 := tdiv_le den _ hne
    simp only [Int.tdiv_neg] at t1 t2 ⊢
    generalize divS num den = d at *
    have hP := fun (W : World) => refPart_any (-num.tdiv d) (-den.tdiv d) W
    have hz0 : ((-d) == 0) = false := by rw [beq_eq_false_iff_ne]; exact hne
    generalize okP ⟨-num.tdiv d, -den.tdiv d⟩ = r at hP ⊢
    clear h0 hne
    unfold RE
    cases r with
    | false =>
      simp only [Bool.false_eq_true, if_false]
      go_enter Try.func57, Try.ntmps57
      go_wp2_with fail
      refine (hD _).mono ?_
      rintro e w1 ⟨rfl, hb1⟩
      have hz1 := hb1.size
      try simp only [World.size_alloc, World.size_setCell, World.size_drew] at hz1
      have hc1_0 := fun o => hb1.cell (p := ⟨w.heap.size, o, none⟩) (by show w.heap.size < _; first | omega | (simp only [World.size_alloc, World.size_setCell, World.size_drew]; omega))
      have hf1_0 := fun o => hb1.frozen (p := ⟨w.heap.size, o, none⟩) (by show w.heap.size < _; first | omega | (simp only [World.size_alloc, World.size_setCell, World.size_drew]; omega))
      have hz1_0 : w.heap.size < w1.heap.size := by omega
      go_wp2_with fail
      go_region
      go_wp2_with fail
      refine (hP _).mono ?_
      rintro e w2 ⟨rfl, hb2⟩
      have hz2 := hb2.size
      try simp only [World.size_alloc, World.size_setCell, World.size_drew] at hz2
      have hc2_0 := fun o => hb2.cell (p := ⟨w.heap.size, o, none⟩) (by show w.heap.size < _; first | omega | (simp only [World.size_alloc, World.size_setCell, World.size_drew]; omega))
      have hf2_0 := fun o => hb2.frozen (p := ⟨w.heap.size, o, none⟩) (by show w.heap.size < _; first | omega | (simp only [World.size_alloc, World.size_setCell, World.size_drew]; omega))
      have hz2_0 : w.heap.size < w2.heap.size := by omega
      go_wp2
      refine bodyPost_ret (v := .tuple #[.agg #[.int .i64 0, .int .i64 0], .int .i64 10]) (by simp [results, Try.results57, go_sem, cell_set, hc1_0, hc2_0, hz1_0]) rfl ⟨rfl, (by (try show Below _ _ _); repeat (first | (with_reducible refine Below.setCell ?_ (by first | omega | (simp <;> omega)) _) | (with_reducible refine Below.alloc ?_ (by first | omega | (simp <;> omega)) _) | (with_reducible refine Below.drew ?_) | (with_reducible exact Below.refl _ _) | (with_reducible refine below_call ?_ (by assumption) (by first | omega | (simp <;> omega))) | (with_reducible refine below_call ?_ (Drew.below (by assumption) _) (by first | omega | (simp <;> omega)))))⟩
    | true =>
      simp only [if_true]
      go_enter Try.func57, Try.ntmps57
      go_wp2_with fail
      refine (hD _).mono ?_
      rintro e w1 ⟨rfl, hb1⟩
      have hz1 := hb1.size
      try simp only [World.size_alloc, World.size_setCell, World.size_drew] at hz1
      have hc1_0 := fun o => hb1.cell (p := ⟨w.heap.size, o, none⟩) (by show w.heap.size < _; first | omega | (simp only [World.size_alloc, World.size_setCell, World.size_drew]; omega))
      have hf1_0 := fun o => hb1.frozen (p := ⟨w.heap.size, o, none⟩) (by show w.heap.size < _; first | omega | (simp only [World.size_alloc, World.size_setCell, World.size_drew]; omega))
      have hz1_0 : w.heap.size < w1.heap.size := by omega
      go_wp2_with fail
      go_region
      go_wp2_with fail
      refine (hP _).mono ?_
      rintro e w2 ⟨rfl, hb2⟩
      have hz2 := hb2.size
      try simp only [World.size_alloc, World.size_setCell, World.size_drew] at hz2
      have hc2_0 := fun o => hb2.cell (p := ⟨w.heap.size, o, none⟩) (by show w.heap.size < _; first | omega | (simp only [World.size_alloc, World.size_setCell, World.size_drew]; omega))
      have hf2_0 := fun o => hb2.frozen (p := ⟨w.heap.size, o, none⟩) (by show w.heap.size < _; first | omega | (simp only [World.size_alloc, World.size_setCell, World.size_drew]; omega))
      have hz2_0 : w.heap.size < w2.heap.size := by omega
      have hc2_a := fun o => hb2.cell (p := ⟨w1.heap.size, o, none⟩) (by show w1.heap.size < _; first | omega | (simp only [World.size_alloc, World.size_setCell, World.size_drew]; omega))
      have hf2_a := fun o => hb2.frozen (p := ⟨w1.heap.size, o, none⟩) (by show w1.heap.size < _; first | omega | (simp only [World.size_alloc, World.size_setCell, World.size_drew]; omega))
      have hz2_a : w1.heap.size < w2.heap.size := by omega
      go_wp2
      refine bodyPost_ret (v := .tuple #[.agg #[.int .i64 (-num.tdiv d), .int .i64 (-den.tdiv d)], .int .i64 0]) (by simp [results, Try.results57, go_sem, cell_set, hc1_0, hc2_0, hc2_a, hz1_0]) rfl ⟨rfl, (by (try show Below _ _ _); repeat (first | (with_reducible refine Below.setCell ?_ (by first | omega | (simp <;> omega)) _) | (with_reducible refine Below.alloc ?_ (by first | omega | (simp <;> omega)) _) | (with_reducible refine Below.drew ?_) | (with_reducible exact Below.refl _ _) | (with_reducible refine below_call ?_ (by assumption) (by first | omega | (simp <;> omega))) | (with_reducible refine below_call ?_ (Drew.below (by assumption) _) (by first | omega | (simp <;> omega)))))⟩
  · have hne : divS num den ≠ 0 := by omega
    have t1 := tdiv_le num _ hne
    have t2 := tdiv_le den _ hne
    skip
    generalize divS num den = d at *
    have hP := fun (W : World) => refPart_any (num.tdiv d) (den.tdiv d) W
    have hz0 : ((d) == 0) = false := by rw [beq_eq_false_iff_ne]; exact hne
    generalize okP ⟨num.tdiv d, den.tdiv d⟩ = r at hP ⊢
    clear h0 hne
    unfold RE
    cases r with
    | false =>
      simp only [Bool.false_eq_true, if_false]
      go_enter Try.func57, Try.ntmps57
      go_wp2_with fail
      refine (hD _).mono ?_
      rintro e w1 ⟨rfl, hb1⟩
      have hz1 := hb1.size
      try simp only [World.size_alloc, World.size_setCell, World.size_drew] at hz1
      have hc1_0 := fun o => hb1.cell (p := ⟨w.heap.size, o, none⟩) (by show w.heap.size < _; first | omega | (simp only [World.size_alloc, World.size_setCell, World.size_drew]; omega))
      have hf1_0 := fun o => hb1.frozen (p := ⟨w.heap.size, o, none⟩) (by show w.heap.size < _; first | omega | (simp only [World.size_alloc, World.size_setCell, World.size_drew]; omega))
      have hz1_0 : w.heap.size < w1.heap.size := by omega
      go_wp2_with fail
      go_region
      go_wp2_with fail
      refine (hP _).mono ?_
      rintro e w2 ⟨rfl, hb2⟩
      have hz2 := hb2.size
      try simp only [World.size_alloc, World.size_setCell, World.size_drew] at hz2
      have hc2_0 := fun o => hb2.cell (p := ⟨w.heap.size, o, none⟩) (by show w.heap.size < _; first | omega | (simp only [World.size_alloc, World.size_setCell, World.size_drew]; omega))
      have hf2_0 := fun o => hb2.frozen (p := ⟨w.heap.size, o, none⟩) (by show w.heap.size < _; first | omega | (simp only [World.size_alloc, World.size_setCell, World.size_drew]; omega))
      have hz2_0 : w.heap.size < w2.heap.size := by omega
      go_wp2
      refine bodyPost_ret (v := .tuple #[.agg #[.int .i64 0, .int .i64 0], .int .i64 10]) (by simp [results, Try.results57, go_sem, cell_set, hc1_0, hc2_0, hz1_0]) rfl ⟨rfl, (by (try show Below _ _ _); repeat (first | (with_reducible refine Below.setCell ?_ (by first | omega | (simp <;> omega)) _) | (with_reducible refine Below.alloc ?_ (by first | omega | (simp <;> omega)) _) | (with_reducible refine Below.drew ?_) | (with_reducible exact Below.refl _ _) | (with_reducible refine below_call ?_ (by assumption) (by first | omega | (simp <;> omega))) | (with_reducible refine below_call ?_ (Drew.below (by assumption) _) (by first | omega | (simp <;> omega)))))⟩
    | true =>
      simp only [if_true]
      go_enter Try.func57, Try.ntmps57
      go_wp2_with fail
      refine (hD _).mono ?_
      rintro e w1 ⟨rfl, hb1⟩
      have hz1 := hb1.size
      try simp only [World.size_alloc, World.size_setCell, World.size_drew] at hz1
      have hc1_0 := fun o => hb1.cell (p := ⟨w.heap.size, o, none⟩) (by show w.heap.size < _; first | omega | (simp only [World.size_alloc, World.size_setCell, World.size_drew]; omega))
      have hf1_0 := fun o => hb1.frozen (p := ⟨w.heap.size, o, none⟩) (by show w.heap.size < _; first | omega | (simp only [World.size_alloc, World.size_setCell, World.size_drew]; omega))
      have hz1_0 : w.heap.size < w1.heap.size := by omega
      go_wp2_with fail
      go_region
      go_wp2_with fail
      refine (hP _).mono ?_
      rintro e w2 ⟨rfl, hb2⟩
      have hz2 := hb2.size
      try simp only [World.size_alloc, World.size_setCell, World.size_drew] at hz2
      have hc2_0 := fun o => hb2.cell (p := ⟨w.heap.size, o, none⟩) (by show w.heap.size < _; first | omega | (simp only [World.size_alloc, World.size_setCell, World.size_drew]; omega))
      have hf2_0 := fun o => hb2.frozen (p := ⟨w.heap.size, o, none⟩) (by show w.heap.size < _; first | omega | (simp only [World.size_alloc, World.size_setCell, World.size_drew]; omega))
      have hz2_0 : w.heap.size < w2.heap.size := by omega
      have hc2_a := fun o => hb2.cell (p := ⟨w1.heap.size, o, none⟩) (by show w1.heap.size < _; first | omega | (simp only [World.size_alloc, World.size_setCell, World.size_drew]; omega))
      have hf2_a := fun o => hb2.frozen (p := ⟨w1.heap.size, o, none⟩) (by show w1.heap.size < _; first | omega | (simp only [World.size_alloc, World.size_setCell, World.size_drew]; omega))
      have hz2_a : w1.heap.size < w2.heap.size := by omega
      go_wp2
      refine bodyPost_ret (v := .tuple #[.agg #[.int .i64 (num.tdiv d), .int .i64 (den.tdiv d)], .int .i64 0]) (by simp [results, Try.results57, go_sem, cell_set, hc1_0, hc2_0, hc2_a, hz1_0]) rfl ⟨rfl, (by (try show Below _ _ _); repeat (first | (with_reducible refine Below.setCell ?_ (by first | omega | (simp <;> omega)) _) | (with_reducible refine Below.alloc ?_ (by first | omega | (simp <;> omega)) _) | (with_reducible refine Below.drew ?_) | (with_reducible exact Below.refl _ _) | (with_reducible refine below_call ?_ (by assumption) (by first | omega | (simp <;> omega))) | (with_reducible refine below_call ?_ (Drew.below (by assumption) _) (by first | omega | (simp <;> omega)))))⟩

set_option maxHeartbeats 1000000 in
theorem refMakePart_any (num den : Int) (w : World) :
    Calls Try.prog 50 #[.int .i64 num, .int .i64 den] w fun e w' => e = .returned (RE (makePartS num den)) ∧ Below w.heap.size w w' := by
  have h1 := fun W => in_any num (-1000000000000000) 1000000000000000 W
  have h2 := fun W => in_any den (-1000000000000000) 1000000000000000 W
  have eb : btw (-1000000000000000) 1000000000000000 [num, den] = (inS num (-1000000000000000) 1000000000000000 && inS den (-1000000000000000) 1000000000000000) := by
    rw [Bool.eq_iff_iff, btw2, Bool.and_eq_true, inS_iff, inS_iff]
  unfold makePartS
  rw [eb]
  cases i1 : inS num (-1000000000000000) 1000000000000000 with
  | false =>
    rw [i1] at h1
    rw [if_pos (by simp)]
    go_enter Try.func50, Try.ntmps50
    go_wp2_with fail
    refine (h1 _).mono ?_
    rintro e w0x ⟨rfl, rfl⟩
    go_wp2
    refine bodyPost_ret (v := .tuple #[.agg #[.int .i64 0, .int .i64 0], .int .i64 3]) (by simp [results, Try.results50, go_sem, cell_set]) rfl ⟨rfl, (by (try show Below _ _ _); repeat (first | (with_reducible refine Below.setCell ?_ (by first | omega | (simp <;> omega)) _) | (with_reducible refine Below.alloc ?_ (by first | omega | (simp <;> omega)) _) | (with_reducible refine Below.drew ?_) | (with_reducible exact Below.refl _ _) | (with_reducible refine below_call ?_ (by assumption) (by first | omega | (simp <;> omega))) | (with_reducible refine below_call ?_ (Drew.below (by assumption) _) (by first | omega | (simp <;> omega)))))⟩
  | true =>
    have k1 := (inS_iff _ _ _).1 i1
    rw [i1] at h1
    cases i2 : inS den (-1000000000000000) 1000000000000000 with
    | false =>
      rw [i2] at h2
      rw [if_pos (by simp)]
      go_enter Try.func50, Try.ntmps50
      go_wp2_with fail
      refine (h1 _).mono ?_
      rintro e w0x ⟨rfl, rfl⟩
      go_wp2_with fail
      refine (h2 _).mono ?_
      rintro e w0x ⟨rfl, rfl⟩
      go_wp2
      refine bodyPost_ret (v := .tuple #[.agg #[.int .i64 0, .int .i64 0], .int .i64 3]) (by simp [results, Try.results50, go_sem, cell_set]) rfl ⟨rfl, (by (try show Below _ _ _); repeat (first | (with_reducible refine Below.setCell ?_ (by first | omega | (simp <;> omega)) _) | (with_reducible refine Below.alloc ?_ (by first | omega | (simp <;> omega)) _) | (with_reducible refine Below.drew ?_) | (with_reducible exact Below.refl _ _) | (with_reducible refine below_call ?_ (by assumption) (by first | omega | (simp <;> omega))) | (with_reducible refine below_call ?_ (Drew.below (by assumption) _) (by first | omega | (simp <;> omega)))))⟩
    | true =>
      have k2 := (inS_iff _ _ _).1 i2
      rw [i2] at h2
      by_cases h0 : den = 0
      · rw [if_pos (.inr h0)]
        subst h0
        go_enter Try.func50, Try.ntmps50
        go_wp2_with fail
        refine (h1 _).mono ?_
        rintro e w0x ⟨rfl, rfl⟩
        go_wp2_with fail
        refine (h2 _).mono ?_
        rintro e w0x ⟨rfl, rfl⟩
        go_wp2
        refine bodyPost_ret (v := .tuple #[.agg #[.int .i64 0, .int .i64 0], .int .i64 3]) (by simp [results, Try.results50, go_sem, cell_set]) rfl ⟨rfl, (by (try show Below _ _ _); repeat (first | (with_reducible refine Below.setCell ?_ (by first | omega | (simp <;> omega)) _) | (with_reducible refine Below.alloc ?_ (by first | omega | (simp <;> omega)) _) | (with_reducible refine Below.drew ?_) | (with_reducible exact Below.refl _ _) | (with_reducible refine below_call ?_ (by assumption) (by first | omega | (simp <;> omega))) | (with_reducible refine below_call ?_ (Drew.below (by assumption) _) (by first | omega | (simp <;> omega)))))⟩
      · rw [if_neg (by simp [h0])]
        have hL := fun W => refLowest_any num den (by omega) (by omega) h0 W
        have hz : (den == 0) = false := by simp [h0]
        generalize lowestS num den = r at hL ⊢
        unfold RE at hL ⊢
        go_enter Try.func50, Try.ntmps50
        go_wp2_with fail
        refine (h1 _).mono ?_
        rintro e w0x ⟨rfl, rfl⟩
        go_wp2_with fail
        refine (h2 _).mono ?_
        rintro e w0x ⟨rfl, rfl⟩
        go_wp2_with fail
        refine (hL _).mono ?_
        rintro e w3 ⟨rfl, hb3⟩
        have hz3 := hb3.size
        try simp only [World.size_alloc, World.size_setCell, World.size_drew] at hz3
        have hc3_0 := fun o => hb3.cell (p := ⟨w.heap.size, o, none⟩) (by show w.heap.size < _; first | omega | (simp only [World.size_alloc, World.size_setCell, World.size_drew]; omega))
        have hf3_0 := fun o => hb3.frozen (p := ⟨w.heap.size, o, none⟩) (by show w.heap.size < _; first | omega | (simp only [World.size_alloc, World.size_setCell, World.size_drew]; omega))
        have hz3_0 : w.heap.size < w3.heap.size := by omega
        go_wp2
        refine bodyPost_ret (v := .tuple #[.agg #[.int .i64 r.1.lo, .int .i64 r.1.hi], .int .i64 r.2]) (by simp [results, Try.results50, go_sem, cell_set, hc3_0]) rfl ⟨rfl, (by (try show Below _ _ _); repeat (first | (with_reducible refine Below.setCell ?_ (by first | omega | (simp <;> omega)) _) | (with_reducible refine Below.alloc ?_ (by first | omega | (simp <;> omega)) _) | (with_reducible refine Below.drew ?_) | (with_reducible exact Below.refl _ _) | (with_reducible refine below_call ?_ (by assumption) (by first | omega | (simp <;> omega))) | (with_reducible refine below_call ?_ (Drew.below (by assumption) _) (by first | omega | (simp <;> omega)))))⟩

end Go.Proofs.Ytfohdafijfjefaa
