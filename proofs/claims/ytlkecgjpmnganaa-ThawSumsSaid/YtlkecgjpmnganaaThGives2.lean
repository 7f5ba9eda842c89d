/- Contracts: thaw.Missing, the reference's Group and Gives. -/
import Derived.Test.YtlkecgjpmnganaaThGives
import Derived.Test.YtlkecgjpmnganaaThRef1
import Derived.Outline
import Derived.StillTailTactics
set_option linter.unusedSimpArgs false
set_option linter.unusedVariables false
namespace Go.Proofs.Ytlkecgjpmnganaa
open Go.RowKit Go.Shelf

def missS (lo hi c : Int) : R × Int :=
  if (decide (lo ≤ hi) && btw 0 1000000000000000 [lo, hi]) = false then (⟨0, 0⟩, 2) else if btw 0 1000000000000000 [c] = false then (⟨0, 0⟩, 3) else if hi < c then (⟨0, 0⟩, 9) else (⟨max 0 (lo - c), hi - c⟩, 0)

set_option maxHeartbeats 1000000 in
theorem missing_any (lo hi c : Int) (w : World) :
    Calls Try.prog 49 #[.agg #[.int .i64 lo, .int .i64 hi], .int .i64 c] w fun e w' => e = .returned (.tuple #[(missS lo hi c).1.val, .int .i64 (missS lo hi c).2]) ∧ Below w.heap.size w w' := by
  have h1 := fun (W : World) => thaw_isRange lo hi 0 1000000000000000 W
  have h2 := fun (A : Option Addr) (W : World) h => thaw_within 0 1000000000000000 0 A 1 1 [c] W h rfl one_le
  have e1 : (decide (lo ≤ hi) && btw 0 1000000000000000 [lo, hi]) = true → 0 ≤ lo ∧ lo ≤ hi ∧ hi ≤ 1000000000000000 := by simp [btw]; omega
  have e2 : btw 0 1000000000000000 [c] = true → 0 ≤ c ∧ c ≤ 1000000000000000 := by simp [btw]
  unfold missS
  generalize (decide (lo ≤ hi) && btw 0 1000000000000000 [lo, hi]) = p at h1 e1 ⊢
  generalize btw 0 1000000000000000 [c] = q at h2 e2 ⊢
  cases p with
  | false =>
    rw [if_pos rfl]
    have hl3 : True := trivial
    go_enter Try.func49, Try.ntmps49
    go_wp2_with fail
    refine (h1 _).mono ?_
    rintro e w1 ⟨rfl, hb1⟩
    have hz1 := hb1.size
    simp only [World.size_alloc] at hz1
    have hl0 : w.heap.size < w1.heap.size := by omega
    have hl1 : w.heap.size + 1 < w1.heap.size := by omega
    have a0 := (hb1.cell (p := ⟨w.heap.size, 0, none⟩) (by show w.heap.size < _; simp <;> omega)).trans (show _ = some (.int .i64 lo) by simp [go_sem])
    have a1 := (hb1.cell (p := ⟨w.heap.size, 1, none⟩) (by show w.heap.size < _; simp <;> omega)).trans (show _ = some (.int .i64 hi) by simp [go_sem])
    have r0 := (hb1.cell (p := ⟨w.heap.size + 1, 0, none⟩) (by show w.heap.size + 1 < _; simp)).trans (show _ = some (.int .i64 0) by simp [go_sem])
    have r1 := (hb1.cell (p := ⟨w.heap.size + 1, 1, none⟩) (by show w.heap.size + 1 < _; simp)).trans (show _ = some (.int .i64 0) by simp [go_sem])
    have f0 := (hb1.frozen (p := ⟨w.heap.size + 1, 0, none⟩) (by show w.heap.size + 1 < _; simp)).trans (show _ = false by simp [go_sem])
    have f1 := (hb1.frozen (p := ⟨w.heap.size + 1, 1, none⟩) (by show w.heap.size + 1 < _; simp)).trans (show _ = false by simp [go_sem])
    have hB1 : Below w.heap.size w w1 := (by (try show Below _ _ _); repeat (first | (with_reducible refine Below.setCell ?_ (by first | omega | (simp <;> omega)) _) | (with_reducible refine Below.alloc ?_ (by first | omega | (simp <;> omega)) _) | (with_reducible refine Below.drew ?_) | (with_reducible exact Below.refl _ _) | (with_reducible exact hb1) | (with_reducible refine below_call ?_ (by assumption) (by first | omega | (simp <;> omega))) | (with_reducible refine below_call ?_ (Drew.below (by assumption) _) (by first | omega | (simp <;> omega)))))
    go_wp2
    refine bodyPost_ret (v := .tuple #[.agg #[.int .i64 0, .int .i64 0], .int .i64 2]) (by simp [results, Try.results49, go_sem, r0, r1, hl1]) rfl ⟨rfl, (by (try show Below _ _ _); repeat (first | (with_reducible refine Below.setCell ?_ (by first | omega | (simp <;> omega)) _) | (with_reducible refine Below.alloc ?_ (by first | omega | (simp <;> omega)) _) | (with_reducible refine Below.drew ?_) | (with_reducible exact Below.refl _ _) | (with_reducible exact hB1) | (with_reducible refine below_call ?_ (by assumption) (by first | omega | (simp <;> omega))) | (with_reducible refine below_call ?_ (Drew.below (by assumption) _) (by first | omega | (simp <;> omega)))))⟩
  | true =>
    rw [if_neg (by decide)]
    cases q with
    | false =>
      rw [if_pos rfl]
      go_enter Try.func49, Try.ntmps49
      go_wp2_with fail
      refine (h1 _).mono ?_
      rintro e w1 ⟨rfl, hb1⟩
      have hz1 := hb1.size
      simp only [World.size_alloc] at hz1
      have hl0 : w.heap.size < w1.heap.size := by omega
      have hl1 : w.heap.size + 1 < w1.heap.size := by omega
      have a0 := (hb1.cell (p := ⟨w.heap.size, 0, none⟩) (by show w.heap.size < _; simp <;> omega)).trans (show _ = some (.int .i64 lo) by simp [go_sem])
      have a1 := (hb1.cell (p := ⟨w.heap.size, 1, none⟩) (by show w.heap.size < _; simp <;> omega)).trans (show _ = some (.int .i64 hi) by simp [go_sem])
      have r0 := (hb1.cell (p := ⟨w.heap.size + 1, 0, none⟩) (by show w.heap.size + 1 < _; simp)).trans (show _ = some (.int .i64 0) by simp [go_sem])
      have r1 := (hb1.cell (p := ⟨w.heap.size + 1, 1, none⟩) (by show w.heap.size + 1 < _; simp)).trans (show _ = some (.int .i64 0) by simp [go_sem])
      have f0 := (hb1.frozen (p := ⟨w.heap.size + 1, 0, none⟩) (by show w.heap.size + 1 < _; simp)).trans (show _ = false by simp [go_sem])
      have f1 := (hb1.frozen (p := ⟨w.heap.size + 1, 1, none⟩) (by show w.heap.size + 1 < _; simp)).trans (show _ = false by simp [go_sem])
      have hB1 : Below w.heap.size w w1 := (by (try show Below _ _ _); repeat (first | (with_reducible refine Below.setCell ?_ (by first | omega | (simp <;> omega)) _) | (with_reducible refine Below.alloc ?_ (by first | omega | (simp <;> omega)) _) | (with_reducible refine Below.drew ?_) | (with_reducible exact Below.refl _ _) | (with_reducible exact hb1) | (with_reducible refine below_call ?_ (by assumption) (by first | omega | (simp <;> omega))) | (with_reducible refine below_call ?_ (Drew.below (by assumption) _) (by first | omega | (simp <;> omega)))))
      go_wp2_with fail
      refine (h2 _ _ (Ints.of1 (by simp [go_sem]) (by first | (simp; done) | (simp; omega)))).mono ?_
      rintro e w2 ⟨rfl, hb2⟩
      have hz2 := hb2.size
      simp only [World.size_alloc] at hz2
      have hl2 : w.heap.size < w2.heap.size := by omega
      have hl3 : w.heap.size + 1 < w2.heap.size := by omega
      have hT : Below w1.heap.size w1 w2 := ((Below.refl _ _).alloc (Nat.le_refl _) _).trans (hb2.mono (by simp))
      replace a0 := (hT.cell hl0).trans a0
      replace a1 := (hT.cell hl0).trans a1
      replace r0 := (hT.cell hl1).trans r0
      replace r1 := (hT.cell hl1).trans r1
      replace f0 := (hT.frozen (p := ⟨w.heap.size + 1, 0, none⟩) hl1).trans f0
      replace f1 := (hT.frozen (p := ⟨w.heap.size + 1, 1, none⟩) hl1).trans f1
      have hB2 : Below w.heap.size w w2 := hB1.trans (hT.mono (by omega))
      go_wp2
      refine bodyPost_ret (v := .tuple #[.agg #[.int .i64 0, .int .i64 0], .int .i64 3]) (by simp [results, Try.results49, go_sem, r0, r1, hl1, hl3]) rfl ⟨rfl, (by (try show Below _ _ _); repeat (first | (with_reducible refine Below.setCell ?_ (by first | omega | (simp <;> omega)) _) | (with_reducible refine Below.alloc ?_ (by first | omega | (simp <;> omega)) _) | (with_reducible refine Below.drew ?_) | (with_reducible exact Below.refl _ _) | (with_reducible exact hB2) | (with_reducible refine below_call ?_ (by assumption) (by first | omega | (simp <;> omega))) | (with_reducible refine below_call ?_ (Drew.below (by assumption) _) (by first | omega | (simp <;> omega)))))⟩
    | true =>
      rw [if_neg (by decide)]
      have b1 := e1 rfl
      have b2 := e2 rfl
      by_cases hc : hi < c
      · rw [if_pos hc]
        go_enter Try.func49, Try.ntmps49
        go_wp2_with fail
        refine (h1 _).mono ?_
        rintro e w1 ⟨rfl, hb1⟩
        have hz1 := hb1.size
        simp only [World.size_alloc] at hz1
        have hl0 : w.heap.size < w1.heap.size := by omega
        have hl1 : w.heap.size + 1 < w1.heap.size := by omega
        have a0 := (hb1.cell (p := ⟨w.heap.size, 0, none⟩) (by show w.heap.size < _; simp <;> omega)).trans (show _ = some (.int .i64 lo) by simp [go_sem])
        have a1 := (hb1.cell (p := ⟨w.heap.size, 1, none⟩) (by show w.heap.size < _; simp <;> omega)).trans (show _ = some (.int .i64 hi) by simp [go_sem])
        have r0 := (hb1.cell (p := ⟨w.heap.size + 1, 0, none⟩) (by show w.heap.size + 1 < _; simp)).trans (show _ = some (.int .i64 0) by simp [go_sem])
        have r1 := (hb1.cell (p := ⟨w.heap.size + 1, 1, none⟩) (by show w.heap.size + 1 < _; simp)).trans (show _ = some (.int .i64 0) by simp [go_sem])
        have f0 := (hb1.frozen (p := ⟨w.heap.size + 1, 0, none⟩) (by show w.heap.size + 1 < _; simp)).trans (show _ = false by simp [go_sem])
        have f1 := (hb1.frozen (p := ⟨w.heap.size + 1, 1, none⟩) (by show w.heap.size + 1 < _; simp)).trans (show _ = false by simp [go_sem])
        have hB1 : Below w.heap.size w w1 := (by (try show Below _ _ _); repeat (first | (with_reducible refine Below.setCell ?_ (by first | omega | (simp <;> omega)) _) | (with_reducible refine Below.alloc ?_ (by first | omega | (simp <;> omega)) _) | (with_reducible refine Below.drew ?_) | (with_reducible exact Below.refl _ _) | (with_reducible exact hb1) | (with_reducible refine below_call ?_ (by assumption) (by first | omega | (simp <;> omega))) | (with_reducible refine below_call ?_ (Drew.below (by assumption) _) (by first | omega | (simp <;> omega)))))
        go_wp2_with fail
        refine (h2 _ _ (Ints.of1 (by simp [go_sem]) (by first | (simp; done) | (simp; omega)))).mono ?_
        rintro e w2 ⟨rfl, hb2⟩
        have hz2 := hb2.size
        simp only [World.size_alloc] at hz2
        have hl2 : w.heap.size < w2.heap.size := by omega
        have hl3 : w.heap.size + 1 < w2.heap.size := by omega
        have hT : Below w1.heap.size w1 w2 := ((Below.refl _ _).alloc (Nat.le_refl _) _).trans (hb2.mono (by simp))
        replace a0 := (hT.cell hl0).trans a0
        replace a1 := (hT.cell hl0).trans a1
        replace r0 := (hT.cell hl1).trans r0
        replace r1 := (hT.cell hl1).trans r1
        replace f0 := (hT.frozen (p := ⟨w.heap.size + 1, 0, none⟩) hl1).trans f0
        replace f1 := (hT.frozen (p := ⟨w.heap.size + 1, 1, none⟩) hl1).trans f1
        have hB2 : Below w.heap.size w w2 := hB1.trans (hT.mono (by omega))
        go_wp2
        refine bodyPost_ret (v := .tuple #[.agg #[.int .i64 0, .int .i64 0], .int .i64 9]) (by simp [results, Try.results49, go_sem, r0, r1, hl1, hl3]) rfl ⟨rfl, (by (try show Below _ _ _); repeat (first | (with_reducible refine Below.setCell ?_ (by first | omega | (simp <;> omega)) _) | (with_reducible refine Below.alloc ?_ (by first | omega | (simp <;> omega)) _) | (with_reducible refine Below.drew ?_) | (with_reducible exact Below.refl _ _) | (with_reducible exact hB2) | (with_reducible refine below_call ?_ (by assumption) (by first | omega | (simp <;> omega))) | (with_reducible refine below_call ?_ (Drew.below (by assumption) _) (by first | omega | (simp <;> omega)))))⟩
      · rw [if_neg hc]
        have w1' : wrap64 (lo - c) = lo - c := IntWalk.wrap64_in _ ⟨by omega, by omega⟩
        have w2' : wrap64 (hi - c) = hi - c := IntWalk.wrap64_in _ ⟨by omega, by omega⟩
        go_enter Try.func49, Try.ntmps49
        go_wp2_with fail
        refine (h1 _).mono ?_
        rintro e w1 ⟨rfl, hb1⟩
        have hz1 := hb1.size
        simp only [World.size_alloc] at hz1
        have hl0 : w.heap.size < w1.heap.size := by omega
        have hl1 : w.heap.size + 1 < w1.heap.size := by omega
        have a0 := (hb1.cell (p := ⟨w.heap.size, 0, none⟩) (by show w.heap.size < _; simp <;> omega)).trans (show _ = some (.int .i64 lo) by simp [go_sem])
        have a1 := (hb1.cell (p := ⟨w.heap.size, 1, none⟩) (by show w.heap.size < _; simp <;> omega)).trans (show _ = some (.int .i64 hi) by simp [go_sem])
        have r0 := (hb1.cell (p := ⟨w.heap.size + 1, 0, none⟩) (by show w.heap.size + 1 < _; simp)).trans (show _ = some (.int .i64 0) by simp [go_sem])
        have r1 := (hb1.cell (p := ⟨w.heap.size + 1, 1, none⟩) (by show w.heap.size + 1 < _; simp)).trans (show _ = some (.int .i64 0) by simp [go_sem])
        have f0 := (hb1.frozen (p := ⟨w.heap.size + 1, 0, none⟩) (by show w.heap.size + 1 < _; simp)).trans (show _ = false by simp [go_sem])
        have f1 := (hb1.frozen (p := ⟨w.heap.size + 1, 1, none⟩) (by show w.heap.size + 1 < _; simp)).trans (show _ = false by simp [go_sem])
        have hB1 : Below w.heap.size w w1 := (by (try show Below _ _ _); repeat (first | (with_reducible refine Below.setCell ?_ (by first | omega | (simp <;> omega)) _) | (with_reducible refine Below.alloc ?_ (by first | omega | (simp <;> omega)) _) | (with_reducible refine Below.drew ?_) | (with_reducible exact Below.refl _ _) | (with_reducible exact hb1) | (with_reducible refine below_call ?_ (by assumption) (by first | omega | (simp <;> omega))) | (with_reducible refine below_call ?_ (Drew.below (by assumption) _) (by first | omega | (simp <;> omega)))))
        go_wp2_with fail
        refine (h2 _ _ (Ints.of1 (by simp [go_sem]) (by first | (simp; done) | (simp; omega)))).mono ?_
        rintro e w2 ⟨rfl, hb2⟩
        have hz2 := hb2.size
        simp only [World.size_alloc] at hz2
        have hl2 : w.heap.size < w2.heap.size := by omega
        have hl3 : w.heap.size + 1 < w2.heap.size := by omega
        have hT : Below w1.heap.size w1 w2 := ((Below.refl _ _).alloc (Nat.le_refl _) _).trans (hb2.mono (by simp))
        replace a0 := (hT.cell hl0).trans a0
        replace a1 := (hT.cell hl0).trans a1
        replace r0 := (hT.cell hl1).trans r0
        replace r1 := (hT.cell hl1).trans r1
        replace f0 := (hT.frozen (p := ⟨w.heap.size + 1, 0, none⟩) hl1).trans f0
        replace f1 := (hT.frozen (p := ⟨w.heap.size + 1, 1, none⟩) hl1).trans f1
        have hB2 : Below w.heap.size w w2 := hB1.trans (hT.mono (by omega))
        go_wp2
        refine bodyPost_ret (v := .tuple #[.agg #[.int .i64 (max 0 (lo - c)), .int .i64 (hi - c)], .int .i64 0]) (by simp [results, Try.results49, go_sem, r0, r1, hl1, hl3]) rfl ⟨rfl, (by (try show Below _ _ _); repeat (first | (with_reducible refine Below.setCell ?_ (by first | omega | (simp <;> omega)) _) | (with_reducible refine Below.alloc ?_ (by first | omega | (simp <;> omega)) _) | (with_reducible refine Below.drew ?_) | (with_reducible exact Below.refl _ _) | (with_reducible exact hB2) | (with_reducible refine below_call ?_ (by assumption) (by first | omega | (simp <;> omega))) | (with_reducible refine below_call ?_ (Drew.below (by assumption) _) (by first | omega | (simp <;> omega)))))⟩

set_option maxHeartbeats 400000 in
theorem refGroup_any (t a b : Int) (w : World) :
    Calls Try.prog 86 #[.agg #[.int .i64 t, .int .i64 a, .int .i64 b]] w fun e w' => e = .returned (.bool (okG ⟨t, a, b⟩)) ∧ Below w.heap.size w w' := by
  have e : okG ⟨t, a, b⟩ = (inT t 0 1000 && (inT a 0 10000 && inT b a 10000)) := by
    rw [Bool.eq_iff_iff]
    simp [okG, btw, inT]
    omega
  rw [e]
  have h1 := fun W => refIn_any t 0 1000 W
  have h2 := fun W => refSpan_any a b 0 10000 W
  generalize inT t 0 1000 = p at h1 ⊢
  generalize (inT a 0 10000 && inT b a 10000) = q at h2 ⊢
  cases p with
  | false =>
    go_enter Try.func86, Try.ntmps86
    go_wp2_with fail
    refine (h1 _).mono ?_
    rintro e w0x ⟨rfl, rfl⟩
    go_wp2
    go_ret
    exact ⟨rfl, (by (try show Below _ _ _); repeat (first | (with_reducible refine Below.setCell ?_ (by first | omega | (simp <;> omega)) _) | (with_reducible refine Below.alloc ?_ (by first | omega | (simp <;> omega)) _) | (with_reducible refine Below.drew ?_) | (with_reducible exact Below.refl _ _) | (with_reducible refine below_call ?_ (by assumption) (by first | omega | (simp <;> omega))) | (with_reducible refine below_call ?_ (Drew.below (by assumption) _) (by first | omega | (simp <;> omega)))))⟩
  | true =>
    go_enter Try.func86, Try.ntmps86
    go_wp2_with fail
    refine (h1 _).mono ?_
    rintro e w0x ⟨rfl, rfl⟩
    go_wp2_with fail
    refine (h2 _).mono ?_
    rintro e w1 ⟨rfl, hb1⟩
    go_wp2
    go_ret
    exact ⟨by simp, (by (try show Below _ _ _); repeat (first | (with_reducible refine Below.setCell ?_ (by first | omega | (simp <;> omega)) _) | (with_reducible refine Below.alloc ?_ (by first | omega | (simp <;> omega)) _) | (with_reducible refine Below.drew ?_) | (with_reducible exact Below.refl _ _) | (with_reducible exact hb1) | (with_reducible refine below_call ?_ (by assumption) (by first | omega | (simp <;> omega))) | (with_reducible refine below_call ?_ (Drew.below (by assumption) _) (by first | omega | (simp <;> omega)))))⟩

end Go.Proofs.Ytlkecgjpmnganaa
