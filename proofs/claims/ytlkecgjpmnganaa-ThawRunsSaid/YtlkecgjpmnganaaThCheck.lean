/- Contracts of package thaw: the checks. -/
import Derived.Test.YtlkecgjpmnganaaThKinds
import Derived.Test.YtlkecgjpmnganaaRange
set_option linter.unusedSimpArgs false
set_option linter.unusedVariables false
namespace Go.Proofs.Ytlkecgjpmnganaa
open Go.RowKit Go.Shelf


set_option maxHeartbeats 400000 in
theorem thaw_isRange (a b least most : Int) (w : World) :
    Calls Try.prog 83 #[.agg #[.int .i64 a, .int .i64 b], .int .i64 least, .int .i64 most] w fun e w' => e = .returned (.bool (decide (a ≤ b) && btw least most [a, b])) ∧ Below w.heap.size w w' := by
  have hW := fun (A : Option Addr) (W : World) h => thaw_within least most 0 A 2 2 [a, b] W h rfl two_le
  generalize btw least most [a, b] = q at hW
  by_cases h : a ≤ b
  · have e1 : decide (a ≤ b) = true := decide_eq_true h
    go_enter Try.func83, Try.ntmps83
    go_wp2_with fail
    refine (hW _ _ (Ints.of2 (by simp [go_sem]) (by simp [go_sem]) (by first | (simp; done) | (simp; omega)))).mono ?_
    rintro e w1 ⟨rfl, hb⟩
    obtain ⟨hc, hf⟩ := bcell hb
    go_wp2
    go_ret
    exact ⟨(by first | rfl | (rw [e1]; rfl) | simp [h]), (by (try show Below _ _ _); repeat (first | (with_reducible refine Below.setCell ?_ (by first | omega | (simp <;> omega)) _) | (with_reducible refine Below.alloc ?_ (by first | omega | (simp <;> omega)) _) | (with_reducible refine Below.drew ?_) | (with_reducible exact Below.refl _ _) | (with_reducible refine below_call ?_ (by assumption) (by first | omega | (simp <;> omega))) | (with_reducible refine below_call ?_ (Drew.below (by assumption) _) (by first | omega | (simp <;> omega)))))⟩
  · have e1 : decide (a ≤ b) = false := decide_eq_false h
    go_enter Try.func83, Try.ntmps83
    go_wp2
    go_ret
    exact ⟨(by first | rfl | (rw [e1]; rfl) | simp [h]), (by (try show Below _ _ _); repeat (first | (with_reducible refine Below.setCell ?_ (by first | omega | (simp <;> omega)) _) | (with_reducible refine Below.alloc ?_ (by first | omega | (simp <;> omega)) _) | (with_reducible refine Below.drew ?_) | (with_reducible exact Below.refl _ _) | (with_reducible refine below_call ?_ (by assumption) (by first | omega | (simp <;> omega))) | (with_reducible refine below_call ?_ (Drew.below (by assumption) _) (by first | omega | (simp <;> omega)))))⟩

def rangeOk (least most : Int) (a b : Int) : Bool := decide (a ≤ b) && btw least most [a, b]
def okRules (r : TR) : Bool := btw (-600) 600 [r.frost, r.thaw] && decide (r.frost ≤ r.thaw) && btw 0 60 [r.gain, r.full] && btw 0 30 [r.ice, r.most, r.melt] && rangeOk 0 100000 r.rlow r.rhigh && btw 0 100 [r.pull]
theorem okRules_iff (r : TR) : okRules r = true ↔ TROk r := by
  constructor
  · intro h
    simp [okRules, btw, rangeOk] at h
    constructor <;> omega
  · rintro ⟨h1, h2, h3, h4, h5, h6, h7, h8, h9, h10, h11, h12, h13, h14, h15, h16, h17, h18⟩
    simp [okRules, btw, rangeOk]
    omega

set_option maxHeartbeats 1000000 in
theorem checkRules_any (r : TR) (w : World) :
    Calls Try.prog 57 #[rV r] w fun e w' => e = .returned (.int .i64 (if okRules r then 0 else 2)) ∧ Below w.heap.size w w' := by
  have h1 := fun (A : Option Addr) (W : World) h => thaw_within (-600) 600 0 A 2 2 [r.frost, r.thaw] W h rfl two_le
  have h3 := fun (A : Option Addr) (W : World) h => thaw_within 0 60 0 A 2 2 [r.gain, r.full] W h rfl two_le
  have h4 := fun (A : Option Addr) (W : World) h => thaw_within 0 30 0 A 3 3 [r.ice, r.most, r.melt] W h rfl three_le
  have h5 := fun (W : World) => thaw_isRange r.rlow r.rhigh 0 100000 W
  have h6 := fun (A : Option Addr) (W : World) h => thaw_within 0 100 0 A 1 1 [r.pull] W h rfl one_le
  have hok : okRules r = (btw (-600) 600 [r.frost, r.thaw] && decide (r.frost ≤ r.thaw) && btw 0 60 [r.gain, r.full] && btw 0 30 [r.ice, r.most, r.melt] && (decide (r.rlow ≤ r.rhigh) && btw 0 100000 [r.rlow, r.rhigh]) && btw 0 100 [r.pull]) := rfl
  generalize okRules r = ok at hok
  generalize (decide (r.rlow ≤ r.rhigh) && btw 0 100000 [r.rlow, r.rhigh]) = b5 at hok h5
  obtain ⟨r0, r1, r2, r3, r4, r5, r6, r7, r8, r9⟩ := r
  simp only at hok h1 h3 h4 h5 h6
  unfold rV
  dsimp only
  generalize btw (-600) 600 [r0, r1] = b1 at hok h1
  generalize btw 0 60 [r2, r3] = b3 at hok h3
  generalize btw 0 30 [r4, r5, r6] = b4 at hok h4
  generalize btw 0 100 [r9] = b6 at hok h6
  cases b1 with
  | false =>
    simp only [Bool.and_true, Bool.and_false, Bool.true_and, Bool.false_and] at hok
    subst hok
    go_enter Try.func57, Try.ntmps57
    go_wp2_with fail
    refine (h1 _ _ (Ints.of2 (by simp [go_sem]) (by simp [go_sem]) (by first | (simp; done) | (simp; omega)))).mono ?_
    rintro e w1 ⟨rfl, hb1⟩
    have hz1 := hb1.size
    (try simp only [World.size_alloc] at hz1)
    have hl1 : w.heap.size < w1.heap.size := by omega
    have hc1 := fun o => hb1.cell (p := ⟨w.heap.size, o, none⟩) (by show w.heap.size < _; simp; omega)
    go_wp2
    go_ret
    exact ⟨(by first | rfl | (simp; done)), (by (try show Below _ _ _); repeat (first | (with_reducible refine Below.setCell ?_ (by first | omega | (simp <;> omega)) _) | (with_reducible refine Below.alloc ?_ (by first | omega | (simp <;> omega)) _) | (with_reducible refine Below.drew ?_) | (with_reducible exact Below.refl _ _) | (with_reducible refine below_call ?_ (by assumption) (by first | omega | (simp <;> omega))) | (with_reducible refine below_call ?_ (Drew.below (by assumption) _) (by first | omega | (simp <;> omega)))))⟩
  | true =>
    by_cases h2 : r0 ≤ r1
    · have h2' : decide (r0 ≤ r1) = true := decide_eq_true h2
      have h2'' : ¬ r1 < r0 := by omega
      rw [h2'] at hok
      cases b3 with
      | false =>
        simp only [Bool.and_true, Bool.and_false, Bool.true_and, Bool.false_and] at hok
        subst hok
        go_enter Try.func57, Try.ntmps57
        go_wp2_with fail
        refine (h1 _ _ (Ints.of2 (by simp [go_sem]) (by simp [go_sem]) (by first | (simp; done) | (simp; omega)))).mono ?_
        rintro e w1 ⟨rfl, hb1⟩
        have hz1 := hb1.size
        (try simp only [World.size_alloc] at hz1)
        have hl1 : w.heap.size < w1.heap.size := by omega
        have hc1 := fun o => hb1.cell (p := ⟨w.heap.size, o, none⟩) (by show w.heap.size < _; simp; omega)
        go_wp2_with fail
        refine (h3 _ _ (Ints.of2 (by simp [go_sem]) (by simp [go_sem]) (by first | (simp; done) | (simp; omega)))).mono ?_
        rintro e w3 ⟨rfl, hb3⟩
        have hz3 := hb3.size
        (try simp only [World.size_alloc] at hz3)
        have hl3 : w.heap.size < w3.heap.size := by omega
        have hc3 := fun o => hb3.cell (p := ⟨w.heap.size, o, none⟩) (by show w.heap.size < _; simp; omega)
        go_wp2
        go_ret
        exact ⟨(by first | rfl | (simp; done)), (by (try show Below _ _ _); repeat (first | (with_reducible refine Below.setCell ?_ (by first | omega | (simp <;> omega)) _) | (with_reducible refine Below.alloc ?_ (by first | omega | (simp <;> omega)) _) | (with_reducible refine Below.drew ?_) | (with_reducible exact Below.refl _ _) | (with_reducible refine below_call ?_ (by assumption) (by first | omega | (simp <;> omega))) | (with_reducible refine below_call ?_ (Drew.below (by assumption) _) (by first | omega | (simp <;> omega)))))⟩
      | true =>
        cases b4 with
        | false =>
          simp only [Bool.and_true, Bool.and_false, Bool.true_and, Bool.false_and] at hok
          subst hok
          go_enter Try.func57, Try.ntmps57
          go_wp2_with fail
          refine (h1 _ _ (Ints.of2 (by simp [go_sem]) (by simp [go_sem]) (by first | (simp; done) | (simp; omega)))).mono ?_
          rintro e w1 ⟨rfl, hb1⟩
          have hz1 := hb1.size
          (try simp only [World.size_alloc] at hz1)
          have hl1 : w.heap.size < w1.heap.size := by omega
          have hc1 := fun o => hb1.cell (p := ⟨w.heap.size, o, none⟩) (by show w.heap.size < _; simp; omega)
          go_wp2_with fail
          refine (h3 _ _ (Ints.of2 (by simp [go_sem]) (by simp [go_sem]) (by first | (simp; done) | (simp; omega)))).mono ?_
          rintro e w3 ⟨rfl, hb3⟩
          have hz3 := hb3.size
          (try simp only [World.size_alloc] at hz3)
          have hl3 : w.heap.size < w3.heap.size := by omega
          have hc3 := fun o => hb3.cell (p := ⟨w.heap.size, o, none⟩) (by show w.heap.size < _; simp; omega)
          go_wp2_with fail
          refine (h4 _ _ (Ints.of3 (by simp [go_sem]) (by simp [go_sem]) (by simp [go_sem]) (by first | (simp; done) | (simp; omega)))).mono ?_
          rintro e w4 ⟨rfl, hb4⟩
          have hz4 := hb4.size
          (try simp only [World.size_alloc] at hz4)
          have hl4 : w.heap.size < w4.heap.size := by omega
          have hc4 := fun o => hb4.cell (p := ⟨w.heap.size, o, none⟩) (by show w.heap.size < _; simp; omega)
          go_wp2
          go_ret
          exact ⟨(by first | rfl | (simp; done)), (by (try show Below _ _ _); repeat (first | (with_reducible refine Below.setCell ?_ (by first | omega | (simp <;> omega)) _) | (with_reducible refine Below.alloc ?_ (by first | omega | (simp <;> omega)) _) | (with_reducible refine Below.drew ?_) | (with_reducible exact Below.refl _ _) | (with_reducible refine below_call ?_ (by assumption) (by first | omega | (simp <;> omega))) | (with_reducible refine below_call ?_ (Drew.below (by assumption) _) (by first | omega | (simp <;> omega)))))⟩
        | true =>
          cases b5 with
          | false =>
            simp only [Bool.and_true, Bool.and_false, Bool.true_and, Bool.false_and] at hok
            subst hok
            go_enter Try.func57, Try.ntmps57
            go_wp2_with fail
            refine (h1 _ _ (Ints.of2 (by simp [go_sem]) (by simp [go_sem]) (by first | (simp; done) | (simp; omega)))).mono ?_
            rintro e w1 ⟨rfl, hb1⟩
            have hz1 := hb1.size
            (try simp only [World.size_alloc] at hz1)
            have hl1 : w.heap.size < w1.heap.size := by omega
            have hc1 := fun o => hb1.cell (p := ⟨w.heap.size, o, none⟩) (by show w.heap.size < _; simp; omega)
            go_wp2_with fail
            refine (h3 _ _ (Ints.of2 (by simp [go_sem]) (by simp [go_sem]) (by first | (simp; done) | (simp; omega)))).mono ?_
            rintro e w3 ⟨rfl, hb3⟩
            have hz3 := hb3.size
            (try simp only [World.size_alloc] at hz3)
            have hl3 : w.heap.size < w3.heap.size := by omega
            have hc3 := fun o => hb3.cell (p := ⟨w.heap.size, o, none⟩) (by show w.heap.size < _; simp; omega)
            go_wp2_with fail
            refine (h4 _ _ (Ints.of3 (by simp [go_sem]) (by simp [go_sem]) (by simp [go_sem]) (by first | (simp; done) | (simp; omega)))).mono ?_
            rintro e w4 ⟨rfl, hb4⟩
            have hz4 := hb4.size
            (try simp only [World.size_alloc] at hz4)
            have hl4 : w.heap.size < w4.heap.size := by omega
            have hc4 := fun o => hb4.cell (p := ⟨w.heap.size, o, none⟩) (by show w.heap.size < _; simp; omega)
            go_wp2_with fail
            refine (h5 _).mono ?_
            rintro e w5 ⟨rfl, hb5⟩
            have hz5 := hb5.size
            (try simp only [World.size_alloc] at hz5)
            have hl5 : w.heap.size < w5.heap.size := by omega
            have hc5 := fun o => hb5.cell (p := ⟨w.heap.size, o, none⟩) (by show w.heap.size < _; omega)
            go_wp2
            go_ret
            exact ⟨(by first | rfl | (simp; done)), (by (try show Below _ _ _); repeat (first | (with_reducible refine Below.setCell ?_ (by first | omega | (simp <;> omega)) _) | (with_reducible refine Below.alloc ?_ (by first | omega | (simp <;> omega)) _) | (with_reducible refine Below.drew ?_) | (with_reducible exact Below.refl _ _) | (with_reducible refine below_call ?_ (by assumption) (by first | omega | (simp <;> omega))) | (with_reducible refine below_call ?_ (Drew.below (by assumption) _) (by first | omega | (simp <;> omega)))))⟩
          | true =>
            cases b6 with
            | false =>
              simp only [Bool.and_true, Bool.and_false, Bool.true_and, Bool.false_and] at hok
              subst hok
              go_enter Try.func57, Try.ntmps57
              go_wp2_with fail
              refine (h1 _ _ (Ints.of2 (by simp [go_sem]) (by simp [go_sem]) (by first | (simp; done) | (simp; omega)))).mono ?_
              rintro e w1 ⟨rfl, hb1⟩
              have hz1 := hb1.size
              (try simp only [World.size_alloc] at hz1)
              have hl1 : w.heap.size < w1.heap.size := by omega
              have hc1 := fun o => hb1.cell (p := ⟨w.heap.size, o, none⟩) (by show w.heap.size < _; simp; omega)
              go_wp2_with fail
              refine (h3 _ _ (Ints.of2 (by simp [go_sem]) (by simp [go_sem]) (by first | (simp; done) | (simp; omega)))).mono ?_
              rintro e w3 ⟨rfl, hb3⟩
              have hz3 := hb3.size
              (try simp only [World.size_alloc] at hz3)
              have hl3 : w.heap.size < w3.heap.size := by omega
              have hc3 := fun o => hb3.cell (p := ⟨w.heap.size, o, none⟩) (by show w.heap.size < _; simp; omega)
              go_wp2_with fail
              refine (h4 _ _ (Ints.of3 (by simp [go_sem]) (by simp [go_sem]) (by simp [go_sem]) (by first | (simp; done) | (simp; omega)))).mono ?_
              rintro e w4 ⟨rfl, hb4⟩
              have hz4 := hb4.size
              (try simp only [World.size_alloc] at hz4)
              have hl4 : w.heap.size < w4.heap.size := by omega
              have hc4 := fun o => hb4.cell (p := ⟨w.heap.size, o, none⟩) (by show w.heap.size < _; simp; omega)
              go_wp2_with fail
              refine (h5 _).mono ?_
              rintro e w5 ⟨rfl, hb5⟩
              have hz5 := hb5.size
              (try simp only [World.size_alloc] at hz5)
              have hl5 : w.heap.size < w5.heap.size := by omega
              have hc5 := fun o => hb5.cell (p := ⟨w.heap.size, o, none⟩) (by show w.heap.size < _; omega)
              go_wp2_with fail
              refine (h6 _ _ (Ints.of1 (by simp [go_sem]) (by first | (simp; done) | (simp; omega)))).mono ?_
              rintro e w6 ⟨rfl, hb6⟩
              have hz6 := hb6.size
              (try simp only [World.size_alloc] at hz6)
              have hl6 : w.heap.size < w6.heap.size := by omega
              go_wp2
              go_ret
              exact ⟨(by first | rfl | (simp; done)), (by (try show Below _ _ _); repeat (first | (with_reducible refine Below.setCell ?_ (by first | omega | (simp <;> omega)) _) | (with_reducible refine Below.alloc ?_ (by first | omega | (simp <;> omega)) _) | (with_reducible refine Below.drew ?_) | (with_reducible exact Below.refl _ _) | (with_reducible refine below_call ?_ (by assumption) (by first | omega | (simp <;> omega))) | (with_reducible refine below_call ?_ (Drew.below (by assumption) _) (by first | omega | (simp <;> omega)))))⟩
            | true =>
              simp only [Bool.and_true, Bool.and_false, Bool.true_and, Bool.false_and] at hok
              subst hok
              go_enter Try.func57, Try.ntmps57
              go_wp2_with fail
              refine (h1 _ _ (Ints.of2 (by simp [go_sem]) (by simp [go_sem]) (by first | (simp; done) | (simp; omega)))).mono ?_
              rintro e w1 ⟨rfl, hb1⟩
              have hz1 := hb1.size
              (try simp only [World.size_alloc] at hz1)
              have hl1 : w.heap.size < w1.heap.size := by omega
              have hc1 := fun o => hb1.cell (p := ⟨w.heap.size, o, none⟩) (by show w.heap.size < _; simp; omega)
              go_wp2_with fail
              refine (h3 _ _ (Ints.of2 (by simp [go_sem]) (by simp [go_sem]) (by first | (simp; done) | (simp; omega)))).mono ?_
              rintro e w3 ⟨rfl, hb3⟩
              have hz3 := hb3.size
              (try simp only [World.size_alloc] at hz3)
              have hl3 : w.heap.size < w3.heap.size := by omega
              have hc3 := fun o => hb3.cell (p := ⟨w.heap.size, o, none⟩) (by show w.heap.size < _; simp; omega)
              go_wp2_with fail
              refine (h4 _ _ (Ints.of3 (by simp [go_sem]) (by simp [go_sem]) (by simp [go_sem]) (by first | (simp; done) | (simp; omega)))).mono ?_
              rintro e w4 ⟨rfl, hb4⟩
              have hz4 := hb4.size
              (try simp only [World.size_alloc] at hz4)
              have hl4 : w.heap.size < w4.heap.size := by omega
              have hc4 := fun o => hb4.cell (p := ⟨w.heap.size, o, none⟩) (by show w.heap.size < _; simp; omega)
              go_wp2_with fail
              refine (h5 _).mono ?_
              rintro e w5 ⟨rfl, hb5⟩
              have hz5 := hb5.size
              (try simp only [World.size_alloc] at hz5)
              have hl5 : w.heap.size < w5.heap.size := by omega
              have hc5 := fun o => hb5.cell (p := ⟨w.heap.size, o, none⟩) (by show w.heap.size < _; omega)
              go_wp2_with fail
              refine (h6 _ _ (Ints.of1 (by simp [go_sem]) (by first | (simp; done) | (simp; omega)))).mono ?_
              rintro e w6 ⟨rfl, hb6⟩
              have hz6 := hb6.size
              (try simp only [World.size_alloc] at hz6)
              have hl6 : w.heap.size < w6.heap.size := by omega
              go_wp2
              go_ret
              exact ⟨(by first | rfl | (simp; done)), (by (try show Below _ _ _); repeat (first | (with_reducible refine Below.setCell ?_ (by first | omega | (simp <;> omega)) _) | (with_reducible refine Below.alloc ?_ (by first | omega | (simp <;> omega)) _) | (with_reducible refine Below.drew ?_) | (with_reducible exact Below.refl _ _) | (with_reducible refine below_call ?_ (by assumption) (by first | omega | (simp <;> omega))) | (with_reducible refine below_call ?_ (Drew.below (by assumption) _) (by first | omega | (simp <;> omega)))))⟩
    · have h2' : decide (r0 ≤ r1) = false := decide_eq_false h2
      have h2'' : r1 < r0 := by omega
      rw [h2'] at hok
      simp only [Bool.and_true, Bool.and_false, Bool.true_and, Bool.false_and] at hok
      subst hok
      go_enter Try.func57, Try.ntmps57
      go_wp2_with fail
      refine (h1 _ _ (Ints.of2 (by simp [go_sem]) (by simp [go_sem]) (by first | (simp; done) | (simp; omega)))).mono ?_
      rintro e w1 ⟨rfl, hb1⟩
      have hz1 := hb1.size
      (try simp only [World.size_alloc] at hz1)
      have hl1 : w.heap.size < w1.heap.size := by omega
      have hc1 := fun o => hb1.cell (p := ⟨w.heap.size, o, none⟩) (by show w.heap.size < _; simp; omega)
      go_wp2
      go_ret
      exact ⟨(by first | rfl | (simp; done)), (by (try show Below _ _ _); repeat (first | (with_reducible refine Below.setCell ?_ (by first | omega | (simp <;> omega)) _) | (with_reducible refine Below.alloc ?_ (by first | omega | (simp <;> omega)) _) | (with_reducible refine Below.drew ?_) | (with_reducible exact Below.refl _ _) | (with_reducible refine below_call ?_ (by assumption) (by first | omega | (simp <;> omega))) | (with_reducible refine below_call ?_ (Drew.below (by assumption) _) (by first | omega | (simp <;> omega)))))⟩

/-- a state within -/
def okSt (r : TR) (c i : Int) : Bool := btw 0 r.full [c] && btw 0 r.most [i]
theorem okSt_iff (r : TR) (c i : Int) : okSt r c i = true ↔ stIn r (c, i) := by
  simp [okSt, btw, stIn]; omega

set_option maxHeartbeats 1000000 in
theorem checkStart_any (r : TR) (c i : Int) (w : World) :
    Calls Try.prog 53 #[rV r, .agg #[.int .i64 c, .int .i64 i]] w fun e w' => e = .returned (.int .i64 (if okRules r && okSt r c i then 0 else 2)) ∧ Below w.heap.size w w' := by
  have h1 := fun (W : World) => checkRules_any r W
  have h2 := fun (A : Option Addr) (W : World) h => thaw_within 0 r.full 0 A 1 1 [c] W h rfl one_le
  have h3 := fun (A : Option Addr) (W : World) h => thaw_within 0 r.most 0 A 1 1 [i] W h rfl one_le
  have hok : okSt r c i = (btw 0 r.full [c] && btw 0 r.most [i]) := rfl
  generalize okSt r c i = ok at hok
  generalize okRules r = b1 at h1
  obtain ⟨r0, r1, r2, r3, r4, r5, r6, r7, r8, r9⟩ := r
  simp only at hok h2 h3
  unfold rV at h1 ⊢
  dsimp only at h1 ⊢
  generalize btw 0 r3 [c] = b2 at hok h2
  generalize btw 0 r5 [i] = b3 at hok h3
  by_cases q : b1 = true ∧ b2 = true ∧ b3 = true
  · obtain ⟨rfl, rfl, rfl⟩ := q
    simp only [Bool.and_true, Bool.and_false, Bool.true_and, Bool.false_and] at hok
    subst hok
    go_enter Try.func53, Try.ntmps53
    go_wp2_with fail
    refine (h1 _).mono ?_
    rintro e w1 ⟨rfl, hb1⟩
    have hz1 := hb1.size
    (try simp only [World.size_alloc] at hz1)
    have hl1 : w.heap.size < w1.heap.size := by omega
    have hk1 : w.heap.size + 1 < w1.heap.size := by omega
    have hc1 := fun o => hb1.cell (p := ⟨w.heap.size, o, none⟩) (by show w.heap.size < _; simp; omega)
    have hd1 := fun o => hb1.cell (p := ⟨w.heap.size + 1, o, none⟩) (by show w.heap.size + 1 < _; simp)
    go_wp2_with fail
    refine (h2 _ _ (Ints.of1 (by simp [go_sem]) (by first | (simp; done) | (simp; omega)))).mono ?_
    rintro e w2 ⟨rfl, hb2⟩
    have hz2 := hb2.size
    (try simp only [World.size_alloc] at hz2)
    have hl2 : w.heap.size < w2.heap.size := by omega
    have hk2 : w.heap.size + 1 < w2.heap.size := by omega
    have hc2 := fun o => hb2.cell (p := ⟨w.heap.size, o, none⟩) (by show w.heap.size < _; simp; omega)
    have hd2 := fun o => hb2.cell (p := ⟨w.heap.size + 1, o, none⟩) (by show w.heap.size + 1 < _; simp; omega)
    go_wp2_with fail
    refine (h3 _ _ (Ints.of1 (by simp [go_sem]) (by first | (simp; done) | (simp; omega)))).mono ?_
    rintro e w3 ⟨rfl, hb3⟩
    go_wp2
    go_ret
    exact ⟨(by first | rfl | simp), (by (try show Below _ _ _); repeat (first | (with_reducible refine Below.setCell ?_ (by first | omega | (simp <;> omega)) _) | (with_reducible refine Below.alloc ?_ (by first | omega | (simp <;> omega)) _) | (with_reducible refine Below.drew ?_) | (with_reducible exact Below.refl _ _) | (with_reducible refine below_call ?_ (by assumption) (by first | omega | (simp <;> omega))) | (with_reducible refine below_call ?_ (Drew.below (by assumption) _) (by first | omega | (simp <;> omega)))))⟩
  by_cases q : b1 = true ∧ b2 = true ∧ b3 = false
  · obtain ⟨rfl, rfl, rfl⟩ := q
    simp only [Bool.and_true, Bool.and_false, Bool.true_and, Bool.false_and] at hok
    subst hok
    go_enter Try.func53, Try.ntmps53
    go_wp2_with fail
    refine (h1 _).mono ?_
    rintro e w1 ⟨rfl, hb1⟩
    have hz1 := hb1.size
    (try simp only [World.size_alloc] at hz1)
    have hl1 : w.heap.size < w1.heap.size := by omega
    have hk1 : w.heap.size + 1 < w1.heap.size := by omega
    have hc1 := fun o => hb1.cell (p := ⟨w.heap.size, o, none⟩) (by show w.heap.size < _; simp; omega)
    have hd1 := fun o => hb1.cell (p := ⟨w.heap.size + 1, o, none⟩) (by show w.heap.size + 1 < _; simp)
    go_wp2_with fail
    refine (h2 _ _ (Ints.of1 (by simp [go_sem]) (by first | (simp; done) | (simp; omega)))).mono ?_
    rintro e w2 ⟨rfl, hb2⟩
    have hz2 := hb2.size
    (try simp only [World.size_alloc] at hz2)
    have hl2 : w.heap.size < w2.heap.size := by omega
    have hk2 : w.heap.size + 1 < w2.heap.size := by omega
    have hc2 := fun o => hb2.cell (p := ⟨w.heap.size, o, none⟩) (by show w.heap.size < _; simp; omega)
    have hd2 := fun o => hb2.cell (p := ⟨w.heap.size + 1, o, none⟩) (by show w.heap.size + 1 < _; simp; omega)
    go_wp2_with fail
    refine (h3 _ _ (Ints.of1 (by simp [go_sem]) (by first | (simp; done) | (simp; omega)))).mono ?_
    rintro e w3 ⟨rfl, hb3⟩
    go_wp2
    go_ret
    exact ⟨(by first | rfl | simp), (by (try show Below _ _ _); repeat (first | (with_reducible refine Below.setCell ?_ (by first | omega | (simp <;> omega)) _) | (with_reducible refine Below.alloc ?_ (by first | omega | (simp <;> omega)) _) | (with_reducible refine Below.drew ?_) | (with_reducible exact Below.refl _ _) | (with_reducible refine below_call ?_ (by assumption) (by first | omega | (simp <;> omega))) | (with_reducible refine below_call ?_ (Drew.below (by assumption) _) (by first | omega | (simp <;> omega)))))⟩
  by_cases q : b1 = true ∧ b2 = false ∧ b3 = false
  · obtain ⟨rfl, rfl, rfl⟩ := q
    simp only [Bool.and_true, Bool.and_false, Bool.true_and, Bool.false_and] at hok
    subst hok
    go_enter Try.func53, Try.ntmps53
    go_wp2_with fail
    refine (h1 _).mono ?_
    rintro e w1 ⟨rfl, hb1⟩
    have hz1 := hb1.size
    (try simp only [World.size_alloc] at hz1)
    have hl1 : w.heap.size < w1.heap.size := by omega
    have hk1 : w.heap.size + 1 < w1.heap.size := by omega
    have hc1 := fun o => hb1.cell (p := ⟨w.heap.size, o, none⟩) (by show w.heap.size < _; simp; omega)
    have hd1 := fun o => hb1.cell (p := ⟨w.heap.size + 1, o, none⟩) (by show w.heap.size + 1 < _; simp)
    go_wp2_with fail
    refine (h2 _ _ (Ints.of1 (by simp [go_sem]) (by first | (simp; done) | (simp; omega)))).mono ?_
    rintro e w2 ⟨rfl, hb2⟩
    have hz2 := hb2.size
    (try simp only [World.size_alloc] at hz2)
    have hl2 : w.heap.size < w2.heap.size := by omega
    have hk2 : w.heap.size + 1 < w2.heap.size := by omega
    have hc2 := fun o => hb2.cell (p := ⟨w.heap.size, o, none⟩) (by show w.heap.size < _; simp; omega)
    have hd2 := fun o => hb2.cell (p := ⟨w.heap.size + 1, o, none⟩) (by show w.heap.size + 1 < _; simp; omega)
    go_wp2
    go_ret
    exact ⟨(by first | rfl | simp), (by (try show Below _ _ _); repeat (first | (with_reducible refine Below.setCell ?_ (by first | omega | (simp <;> omega)) _) | (with_reducible refine Below.alloc ?_ (by first | omega | (simp <;> omega)) _) | (with_reducible refine Below.drew ?_) | (with_reducible exact Below.refl _ _) | (with_reducible refine below_call ?_ (by assumption) (by first | omega | (simp <;> omega))) | (with_reducible refine below_call ?_ (Drew.below (by assumption) _) (by first | omega | (simp <;> omega)))))⟩
  by_cases q : b1 = true ∧ b2 = false ∧ b3 = true
  · obtain ⟨rfl, rfl, rfl⟩ := q
    simp only [Bool.and_true, Bool.and_false, Bool.true_and, Bool.false_and] at hok
    subst hok
    go_enter Try.func53, Try.ntmps53
    go_wp2_with fail
    refine (h1 _).mono ?_
    rintro e w1 ⟨rfl, hb1⟩
    have hz1 := hb1.size
    (try simp only [World.size_alloc] at hz1)
    have hl1 : w.heap.size < w1.heap.size := by omega
    have hk1 : w.heap.size + 1 < w1.heap.size := by omega
    have hc1 := fun o => hb1.cell (p := ⟨w.heap.size, o, none⟩) (by show w.heap.size < _; simp; omega)
    have hd1 := fun o => hb1.cell (p := ⟨w.heap.size + 1, o, none⟩) (by show w.heap.size + 1 < _; simp)
    go_wp2_with fail
    refine (h2 _ _ (Ints.of1 (by simp [go_sem]) (by first | (simp; done) | (simp; omega)))).mono ?_
    rintro e w2 ⟨rfl, hb2⟩
    have hz2 := hb2.size
    (try simp only [World.size_alloc] at hz2)
    have hl2 : w.heap.size < w2.heap.size := by omega
    have hk2 : w.heap.size + 1 < w2.heap.size := by omega
    have hc2 := fun o => hb2.cell (p := ⟨w.heap.size, o, none⟩) (by show w.heap.size < _; simp; omega)
    have hd2 := fun o => hb2.cell (p := ⟨w.heap.size + 1, o, none⟩) (by show w.heap.size + 1 < _; simp; omega)
    go_wp2
    go_ret
    exact ⟨(by first | rfl | simp), (by (try show Below _ _ _); repeat (first | (with_reducible refine Below.setCell ?_ (by first | omega | (simp <;> omega)) _) | (with_reducible refine Below.alloc ?_ (by first | omega | (simp <;> omega)) _) | (with_reducible refine Below.drew ?_) | (with_reducible exact Below.refl _ _) | (with_reducible refine below_call ?_ (by assumption) (by first | omega | (simp <;> omega))) | (with_reducible refine below_call ?_ (Drew.below (by assumption) _) (by first | omega | (simp <;> omega)))))⟩
  by_cases q : b1 = false
  · subst q
    go_enter Try.func53, Try.ntmps53
    go_wp2_with fail
    refine (h1 _).mono ?_
    rintro e w1 ⟨rfl, hb1⟩
    go_wp2
    go_ret
    exact ⟨(by first | rfl | simp), (by (try show Below _ _ _); repeat (first | (with_reducible refine Below.setCell ?_ (by first | omega | (simp <;> omega)) _) | (with_reducible refine Below.alloc ?_ (by first | omega | (simp <;> omega)) _) | (with_reducible refine Below.drew ?_) | (with_reducible exact Below.refl _ _) | (with_reducible refine below_call ?_ (by assumption) (by first | omega | (simp <;> omega))) | (with_reducible refine below_call ?_ (Drew.below (by assumption) _) (by first | omega | (simp <;> omega)))))⟩
  · exfalso
    clear h1 h2 h3 hok
    cases b1 <;> cases b2 <;> cases b3 <;> simp_all

/-- a temperature -/
def okT (t : R) : Bool := decide (t.lo ≤ t.hi) && btw (-600) 600 [t.lo, t.hi]

set_option maxHeartbeats 400000 in
theorem isTemp_any (a b : Int) (w : World) :
    Calls Try.prog 56 #[.agg #[.int .i64 a, .int .i64 b]] w fun e w' => e = .returned (.bool (okT ⟨a, b⟩)) ∧ Below w.heap.size w w' := by
  have h1 := fun (W : World) => thaw_isRange a b (-600) 600 W
  have e1 : okT ⟨a, b⟩ = (decide (a ≤ b) && btw (-600) 600 [a, b]) := rfl
  rw [e1]
  generalize (decide (a ≤ b) && btw (-600) 600 [a, b]) = q at h1
  clear e1
  go_enter Try.func56, Try.ntmps56
  go_wp2_with fail
  refine (h1 _).mono ?_
  rintro e w1 ⟨rfl, hb1⟩
  go_wp2
  go_ret
  exact ⟨rfl, (by (try show Below _ _ _); repeat (first | (with_reducible refine Below.setCell ?_ (by first | omega | (simp <;> omega)) _) | (with_reducible refine Below.alloc ?_ (by first | omega | (simp <;> omega)) _) | (with_reducible refine Below.drew ?_) | (with_reducible exact Below.refl _ _) | (with_reducible refine below_call ?_ (by assumption) (by first | omega | (simp <;> omega))) | (with_reducible refine below_call ?_ (Drew.below (by assumption) _) (by first | omega | (simp <;> omega)))))⟩

set_option maxHeartbeats 400000 in
theorem check1_any (a b : Int) (w : World) :
    Calls Try.prog 55 #[.agg #[.int .i64 a, .int .i64 b]] w fun e w' => e = .returned (.bool (!okT ⟨a, b⟩)) ∧ Below w.heap.size w w' := by
  have h1 := fun (W : World) => isTemp_any a b W
  generalize okT ⟨a, b⟩ = q at h1
  go_enter Try.func55, Try.ntmps55
  go_wp2_with fail
  refine (h1 _).mono ?_
  rintro e w1 ⟨rfl, hb1⟩
  go_wp2
  go_ret
  exact ⟨rfl, (by (try show Below _ _ _); repeat (first | (with_reducible refine Below.setCell ?_ (by first | omega | (simp <;> omega)) _) | (with_reducible refine Below.alloc ?_ (by first | omega | (simp <;> omega)) _) | (with_reducible refine Below.drew ?_) | (with_reducible exact Below.refl _ _) | (with_reducible refine below_call ?_ (by assumption) (by first | omega | (simp <;> omega))) | (with_reducible refine below_call ?_ (Drew.below (by assumption) _) (by first | omega | (simp <;> omega)))))⟩

theorem check1_pred (w : World) : PredB Try.prog 55 #[] R.val (fun a => !okT a) w := fun x W _ => check1_any x.lo x.hi W

/-- the error of rules, a state, and weather -/
def errT (r : TR) (c i : Int) (ts : List R) : Int := if okRules r && okSt r c i then (if 1000 < ts.length then 5 else if ts.all okT then 0 else 2) else 2

theorem allT_eq (xs : List R) : (xs.any fun a => !okT a) = !xs.all okT := by
  induction xs with
  | nil => rfl
  | cons x l ih => simp only [List.any_cons, List.all_cons, Bool.not_and] at ih ⊢; rw [ih]

set_option maxHeartbeats 1000000 in
theorem check_any (r : TR) (c i : Int) (lo : Nat) (A : Option Addr) (n cc : Nat) (ts : List R) (w : World) (hx : Ranges w lo A ts) (hn : Aside (ts.length = n)) (hl : n ≤ maxLen) :
    Calls Try.prog 17 #[rV r, .agg #[.int .i64 c, .int .i64 i], .slice A n cc] w fun e w' => e = .returned (.int .i64 (errT r c i ts)) ∧ Below w.heap.size w w' := by
  have h1 := fun (W : World) => checkStart_any r c i W
  have eg : Enters Try.prog 55 := enters_of Try.func55 (by kernel_rfl) rfl
  have h2 := fun (W : World) (hb : Below w.heap.size w W) => containsFunc_Range 55 #[] (fun a => !okT a) lo A n cc ts W eg (hx.below hb (Nat.le_refl _)) hn hl (check1_pred W)
  rw [allT_eq] at h2
  have he : errT r c i ts = if okRules r && okSt r c i then (if 1000 < n then 5 else if ts.all okT then 0 else 2) else 2 := by unfold errT; rw [hn.out]
  generalize errT r c i ts = er at he
  generalize ts.all okT = b2 at he h2
  generalize (okRules r && okSt r c i) = b1 at he h1
  obtain ⟨r0, r1, r2, r3, r4, r5, r6, r7, r8, r9⟩ := r
  unfold rV at h1 ⊢
  dsimp only at h1 ⊢
  clear hx hn eg
  cases b1 with
  | false =>
    simp only [Bool.false_eq_true, if_false] at he
    subst he
    go_enter Try.func17, Try.ntmps17
    go_wp2_with fail
    refine (h1 _).mono ?_
    rintro e w1 ⟨rfl, hb1⟩
    go_wp2
    go_ret
    exact ⟨rfl, (by (try show Below _ _ _); repeat (first | (with_reducible refine Below.setCell ?_ (by first | omega | (simp <;> omega)) _) | (with_reducible refine Below.alloc ?_ (by first | omega | (simp <;> omega)) _) | (with_reducible refine Below.drew ?_) | (with_reducible exact Below.refl _ _) | (with_reducible refine below_call ?_ (by assumption) (by first | omega | (simp <;> omega))) | (with_reducible refine below_call ?_ (Drew.below (by assumption) _) (by first | omega | (simp <;> omega)))))⟩
  | true =>
    simp only [if_true] at he h1
    by_cases hlen : 1000 < n
    · rw [if_pos hlen] at he
      subst he
      have hlz : (1000 : Int) < (n : Int) := by omega
      go_enter Try.func17, Try.ntmps17
      go_wp2_with fail
      refine (h1 _).mono ?_
      rintro e w1 ⟨rfl, hb1⟩
      go_wp2
      go_ret
      exact ⟨rfl, (by (try show Below _ _ _); repeat (first | (with_reducible refine Below.setCell ?_ (by first | omega | (simp <;> omega)) _) | (with_reducible refine Below.alloc ?_ (by first | omega | (simp <;> omega)) _) | (with_reducible refine Below.drew ?_) | (with_reducible exact Below.refl _ _) | (with_reducible refine below_call ?_ (by assumption) (by first | omega | (simp <;> omega))) | (with_reducible refine below_call ?_ (Drew.below (by assumption) _) (by first | omega | (simp <;> omega)))))⟩
    · rw [if_neg hlen] at he
      have hlz : ¬ (1000 : Int) < (n : Int) := by omega
      cases b2 with
      | false =>
        simp only [Bool.false_eq_true, if_false] at he
        subst he
        go_enter Try.func17, Try.ntmps17
        go_wp2_with fail
        refine (h1 _).mono ?_
        rintro e w1 ⟨rfl, hb1⟩
        have hz1 := hb1.size
        simp only [World.size_alloc] at hz1
        go_wp2_with fail
        refine Calls.mono (h2 _ ?_) ?_
        · exact (by (try show Below _ _ _); repeat (first | (with_reducible refine Below.setCell ?_ (by first | omega | (simp <;> omega)) _) | (with_reducible refine Below.alloc ?_ (by first | omega | (simp <;> omega)) _) | (with_reducible refine Below.drew ?_) | (with_reducible exact Below.refl _ _) | (with_reducible refine below_call ?_ (by assumption) (by first | omega | (simp <;> omega))) | (with_reducible refine below_call ?_ (Drew.below (by assumption) _) (by first | omega | (simp <;> omega)))))
        rintro e w2 ⟨rfl, hb2⟩
        go_wp2
        go_ret
        exact ⟨rfl, (by (try show Below _ _ _); repeat (first | (with_reducible refine Below.setCell ?_ (by first | omega | (simp <;> omega)) _) | (with_reducible refine Below.alloc ?_ (by first | omega | (simp <;> omega)) _) | (with_reducible refine Below.drew ?_) | (with_reducible exact Below.refl _ _) | (with_reducible refine below_call ?_ (by assumption) (by first | omega | (simp <;> omega))) | (with_reducible refine below_call ?_ (Drew.below (by assumption) _) (by first | omega | (simp <;> omega)))))⟩
      | true =>
        simp only [if_true] at he
        subst he
        go_enter Try.func17, Try.ntmps17
        go_wp2_with fail
        refine (h1 _).mono ?_
        rintro e w1 ⟨rfl, hb1⟩
        have hz1 := hb1.size
        simp only [World.size_alloc] at hz1
        go_wp2_with fail
        refine Calls.mono (h2 _ ?_) ?_
        · exact (by (try show Below _ _ _); repeat (first | (with_reducible refine Below.setCell ?_ (by first | omega | (simp <;> omega)) _) | (with_reducible refine Below.alloc ?_ (by first | omega | (simp <;> omega)) _) | (with_reducible refine Below.drew ?_) | (with_reducible exact Below.refl _ _) | (with_reducible refine below_call ?_ (by assumption) (by first | omega | (simp <;> omega))) | (with_reducible refine below_call ?_ (Drew.below (by assumption) _) (by first | omega | (simp <;> omega)))))
        rintro e w2 ⟨rfl, hb2⟩
        go_wp2
        go_ret
        exact ⟨rfl, (by (try show Below _ _ _); repeat (first | (with_reducible refine Below.setCell ?_ (by first | omega | (simp <;> omega)) _) | (with_reducible refine Below.alloc ?_ (by first | omega | (simp <;> omega)) _) | (with_reducible refine Below.drew ?_) | (with_reducible exact Below.refl _ _) | (with_reducible refine below_call ?_ (by assumption) (by first | omega | (simp <;> omega))) | (with_reducible refine below_call ?_ (Drew.below (by assumption) _) (by first | omega | (simp <;> omega)))))⟩


end Go.Proofs.Ytlkecgjpmnganaa
