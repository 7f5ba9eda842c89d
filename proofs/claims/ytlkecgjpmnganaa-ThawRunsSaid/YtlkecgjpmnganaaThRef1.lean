/- Contracts: the reference's checks and steps (spileref04). -/
import Derived.Test.YtlkecgjpmnganaaThCheck
import Derived.Test.YtlkecgjpmnganaaMM
import Derived.Outline
import Derived.StillTailTactics
set_option linter.unusedSimpArgs false
set_option linter.unusedVariables false
namespace Go.Proofs.Ytlkecgjpmnganaa
open Go.RowKit Go.Shelf

def inT (n l m : Int) : Bool := decide (l ≤ n) && decide (n ≤ m)
theorem refIn_any (n l m : Int) (w : World) :
    Calls Try.prog 59 #[.int .i64 n, .int .i64 l, .int .i64 m] w fun e w' => e = .returned (.bool (inT n l m)) ∧ w = w' := by
  unfold inT
  by_cases h1 : l ≤ n <;> by_cases h2 : n ≤ m
  all_goals
    go_enter Try.func59, Try.ntmps59
    go_wp2
    go_ret
    exact ⟨by simp [h1, h2], rfl⟩

set_option maxHeartbeats 400000 in
theorem refSpan_any (a b l m : Int) (w : World) :
    Calls Try.prog 60 #[.agg #[.int .i64 a, .int .i64 b], .int .i64 l, .int .i64 m] w fun e w' => e = .returned (.bool (inT a l m && inT b a m)) ∧ Below w.heap.size w w' := by
  have h1 := fun W => refIn_any a l m W
  have h2 := fun W => refIn_any b a m W
  generalize inT a l m = p at h1 ⊢
  generalize inT b a m = q at h2 ⊢
  cases p with
  | false =>
    go_enter Try.func60, Try.ntmps60
    go_wp2_with fail
    refine (h1 _).mono ?_
    rintro e w0x ⟨rfl, rfl⟩
    go_wp2
    go_ret
    exact ⟨rfl, (by (try show Below _ _ _); repeat (first | (with_reducible refine Below.setCell ?_ (by first | omega | (simp <;> omega)) _) | (with_reducible refine Below.alloc ?_ (by first | omega | (simp <;> omega)) _) | (with_reducible refine Below.drew ?_) | (with_reducible exact Below.refl _ _) | (with_reducible refine below_call ?_ (by assumption) (by first | omega | (simp <;> omega))) | (with_reducible refine below_call ?_ (Drew.below (by assumption) _) (by first | omega | (simp <;> omega)))))⟩
  | true =>
    go_enter Try.func60, Try.ntmps60
    go_wp2_with fail
    refine (h1 _).mono ?_
    rintro e w0x ⟨rfl, rfl⟩
    go_wp2_with fail
    refine (h2 _).mono ?_
    rintro e w0x ⟨rfl, rfl⟩
    go_wp2
    go_ret
    exact ⟨by simp, (by (try show Below _ _ _); repeat (first | (with_reducible refine Below.setCell ?_ (by first | omega | (simp <;> omega)) _) | (with_reducible refine Below.alloc ?_ (by first | omega | (simp <;> omega)) _) | (with_reducible refine Below.drew ?_) | (with_reducible exact Below.refl _ _) | (with_reducible refine below_call ?_ (by assumption) (by first | omega | (simp <;> omega))) | (with_reducible refine below_call ?_ (Drew.below (by assumption) _) (by first | omega | (simp <;> omega)))))⟩

theorem refTemp_any (a b : Int) (w : World) :
    Calls Try.prog 22 #[.agg #[.int .i64 a, .int .i64 b]] w fun e w' => e = .returned (.bool (okT ⟨a, b⟩)) ∧ Below w.heap.size w w' := by
  have e1 : okT ⟨a, b⟩ = (inT a (-600) 600 && inT b a 600) := by
    rw [Bool.eq_iff_iff]
    simp [okT, btw, inT]
    omega
  rw [e1]
  have h1 := fun W => refSpan_any a b (-600) 600 W
  generalize (inT a (-600) 600 && inT b a 600) = p at h1 ⊢
  go_enter Try.func22, Try.ntmps22
  go_wp2_with fail
  refine (h1 _).mono ?_
  rintro e w1 ⟨rfl, hb1⟩
  go_wp2
  go_ret
  exact ⟨rfl, (by (try show Below _ _ _); repeat (first | (with_reducible refine Below.setCell ?_ (by first | omega | (simp <;> omega)) _) | (with_reducible refine Below.alloc ?_ (by first | omega | (simp <;> omega)) _) | (with_reducible refine Below.drew ?_) | (with_reducible exact Below.refl _ _) | (with_reducible exact hb1) | (with_reducible refine below_call ?_ (by assumption) (by first | omega | (simp <;> omega))) | (with_reducible refine below_call ?_ (Drew.below (by assumption) _) (by first | omega | (simp <;> omega)))))⟩

set_option maxHeartbeats 4000000 in
theorem refRules_any (r : TR) (w : World) :
    Calls Try.prog 21 #[rV r] w fun e w' => e = .returned (.bool (okRules r)) ∧ Below w.heap.size w w' := by
  have e1 : okRules r = (inT r.frost (-600) 600 && inT r.thaw r.frost 600 && inT r.gain 0 60 && inT r.full 0 60 && inT r.ice 0 30 && inT r.most 0 30 && inT r.melt 0 30 && (inT r.rlow 0 100000 && inT r.rhigh r.rlow 100000) && inT r.pull 0 100) := by
    rw [Bool.eq_iff_iff]
    simp [okRules, btw, rangeOk, inT]
    omega
  rw [e1]
  clear e1
  have h0 := fun W => refIn_any r.frost (-600) 600 W
  have h1 := fun W => refIn_any r.thaw r.frost 600 W
  have h2 := fun W => refIn_any r.gain 0 60 W
  have h3 := fun W => refIn_any r.full 0 60 W
  have h4 := fun W => refIn_any r.ice 0 30 W
  have h5 := fun W => refIn_any r.most 0 30 W
  have h6 := fun W => refIn_any r.melt 0 30 W
  have h7 := fun W => refSpan_any r.rlow r.rhigh 0 100000 W
  have h8 := fun W => refIn_any r.pull 0 100 W
  generalize inT r.frost (-600) 600 = p0 at h0 ⊢
  generalize inT r.thaw r.frost 600 = p1 at h1 ⊢
  generalize inT r.gain 0 60 = p2 at h2 ⊢
  generalize inT r.full 0 60 = p3 at h3 ⊢
  generalize inT r.ice 0 30 = p4 at h4 ⊢
  generalize inT r.most 0 30 = p5 at h5 ⊢
  generalize inT r.melt 0 30 = p6 at h6 ⊢
  generalize (inT r.rlow 0 100000 && inT r.rhigh r.rlow 100000) = p7 at h7 ⊢
  generalize inT r.pull 0 100 = p8 at h8 ⊢
  obtain ⟨r0, r1, r2, r3, r4, r5, r6, r7, r8, r9⟩ := r
  unfold rV
  cases p0 with
  | false =>
    go_enter Try.func21, Try.ntmps21
    go_wp2_with fail
    refine (h0 _).mono ?_
    rintro e w0x ⟨rfl, rfl⟩
    go_wp2
    go_ret
    exact ⟨by simp, (by (try show Below _ _ _); repeat (first | (with_reducible refine Below.setCell ?_ (by first | omega | (simp <;> omega)) _) | (with_reducible refine Below.alloc ?_ (by first | omega | (simp <;> omega)) _) | (with_reducible refine Below.drew ?_) | (with_reducible exact Below.refl _ _) | (with_reducible refine below_call ?_ (by assumption) (by first | omega | (simp <;> omega))) | (with_reducible refine below_call ?_ (Drew.below (by assumption) _) (by first | omega | (simp <;> omega)))))⟩
  | true =>
    cases p1 with
    | false =>
      go_enter Try.func21, Try.ntmps21
      go_wp2_with fail
      refine (h0 _).mono ?_
      rintro e w0x ⟨rfl, rfl⟩
      go_wp2_with fail
      refine (h1 _).mono ?_
      rintro e w0x ⟨rfl, rfl⟩
      go_wp2
      go_ret
      exact ⟨by simp, (by (try show Below _ _ _); repeat (first | (with_reducible refine Below.setCell ?_ (by first | omega | (simp <;> omega)) _) | (with_reducible refine Below.alloc ?_ (by first | omega | (simp <;> omega)) _) | (with_reducible refine Below.drew ?_) | (with_reducible exact Below.refl _ _) | (with_reducible refine below_call ?_ (by assumption) (by first | omega | (simp <;> omega))) | (with_reducible refine below_call ?_ (Drew.below (by assumption) _) (by first | omega | (simp <;> omega)))))⟩
    | true =>
      cases p2 with
      | false =>
        go_enter Try.func21, Try.ntmps21
        go_wp2_with fail
        refine (h0 _).mono ?_
        rintro e w0x ⟨rfl, rfl⟩
        go_wp2_with fail
        refine (h1 _).mono ?_
        rintro e w0x ⟨rfl, rfl⟩
        go_wp2_with fail
        refine (h2 _).mono ?_
        rintro e w0x ⟨rfl, rfl⟩
        go_wp2
        go_ret
        exact ⟨by simp, (by (try show Below _ _ _); repeat (first | (with_reducible refine Below.setCell ?_ (by first | omega | (simp <;> omega)) _) | (with_reducible refine Below.alloc ?_ (by first | omega | (simp <;> omega)) _) | (with_reducible refine Below.drew ?_) | (with_reducible exact Below.refl _ _) | (with_reducible refine below_call ?_ (by assumption) (by first | omega | (simp <;> omega))) | (with_reducible refine below_call ?_ (Drew.below (by assumption) _) (by first | omega | (simp <;> omega)))))⟩
      | true =>
        cases p3 with
        | false =>
          go_enter Try.func21, Try.ntmps21
          go_wp2_with fail
          refine (h0 _).mono ?_
          rintro e w0x ⟨rfl, rfl⟩
          go_wp2_with fail
          refine (h1 _).mono ?_
          rintro e w0x ⟨rfl, rfl⟩
          go_wp2_with fail
          refine (h2 _).mono ?_
          rintro e w0x ⟨rfl, rfl⟩
          go_wp2_with fail
          refine (h3 _).mono ?_
          rintro e w0x ⟨rfl, rfl⟩
          go_wp2
          go_ret
          exact ⟨by simp, (by (try show Below _ _ _); repeat (first | (with_reducible refine Below.setCell ?_ (by first | omega | (simp <;> omega)) _) | (with_reducible refine Below.alloc ?_ (by first | omega | (simp <;> omega)) _) | (with_reducible refine Below.drew ?_) | (with_reducible exact Below.refl _ _) | (with_reducible refine below_call ?_ (by assumption) (by first | omega | (simp <;> omega))) | (with_reducible refine below_call ?_ (Drew.below (by assumption) _) (by first | omega | (simp <;> omega)))))⟩
        | true =>
          cases p4 with
          | false =>
            go_enter Try.func21, Try.ntmps21
            go_wp2_with fail
            refine (h0 _).mono ?_
            rintro e w0x ⟨rfl, rfl⟩
            go_wp2_with fail
            refine (h1 _).mono ?_
            rintro e w0x ⟨rfl, rfl⟩
            go_wp2_with fail
            refine (h2 _).mono ?_
            rintro e w0x ⟨rfl, rfl⟩
            go_wp2_with fail
            refine (h3 _).mono ?_
            rintro e w0x ⟨rfl, rfl⟩
            go_wp2_with fail
            refine (h4 _).mono ?_
            rintro e w0x ⟨rfl, rfl⟩
            go_wp2
            go_ret
            exact ⟨by simp, (by (try show Below _ _ _); repeat (first | (with_reducible refine Below.setCell ?_ (by first | omega | (simp <;> omega)) _) | (with_reducible refine Below.alloc ?_ (by first | omega | (simp <;> omega)) _) | (with_reducible refine Below.drew ?_) | (with_reducible exact Below.refl _ _) | (with_reducible refine below_call ?_ (by assumption) (by first | omega | (simp <;> omega))) | (with_reducible refine below_call ?_ (Drew.below (by assumption) _) (by first | omega | (simp <;> omega)))))⟩
          | true =>
            cases p5 with
            | false =>
              go_enter Try.func21, Try.ntmps21
              go_wp2_with fail
              refine (h0 _).mono ?_
              rintro e w0x ⟨rfl, rfl⟩
              go_wp2_with fail
              refine (h1 _).mono ?_
              rintro e w0x ⟨rfl, rfl⟩
              go_wp2_with fail
              refine (h2 _).mono ?_
              rintro e w0x ⟨rfl, rfl⟩
              go_wp2_with fail
              refine (h3 _).mono ?_
              rintro e w0x ⟨rfl, rfl⟩
              go_wp2_with fail
              refine (h4 _).mono ?_
              rintro e w0x ⟨rfl, rfl⟩
              go_wp2_with fail
              refine (h5 _).mono ?_
              rintro e w0x ⟨rfl, rfl⟩
              go_wp2
              go_ret
              exact ⟨by simp, (by (try show Below _ _ _); repeat (first | (with_reducible refine Below.setCell ?_ (by first | omega | (simp <;> omega)) _) | (with_reducible refine Below.alloc ?_ (by first | omega | (simp <;> omega)) _) | (with_reducible refine Below.drew ?_) | (with_reducible exact Below.refl _ _) | (with_reducible refine below_call ?_ (by assumption) (by first | omega | (simp <;> omega))) | (with_reducible refine below_call ?_ (Drew.below (by assumption) _) (by first | omega | (simp <;> omega)))))⟩
            | true =>
              cases p6 with
              | false =>
                go_enter Try.func21, Try.ntmps21
                go_wp2_with fail
                refine (h0 _).mono ?_
                rintro e w0x ⟨rfl, rfl⟩
                go_wp2_with fail
                refine (h1 _).mono ?_
                rintro e w0x ⟨rfl, rfl⟩
                go_wp2_with fail
                refine (h2 _).mono ?_
                rintro e w0x ⟨rfl, rfl⟩
                go_wp2_with fail
                refine (h3 _).mono ?_
                rintro e w0x ⟨rfl, rfl⟩
                go_wp2_with fail
                refine (h4 _).mono ?_
                rintro e w0x ⟨rfl, rfl⟩
                go_wp2_with fail
                refine (h5 _).mono ?_
                rintro e w0x ⟨rfl, rfl⟩
                go_wp2_with fail
                refine (h6 _).mono ?_
                rintro e w0x ⟨rfl, rfl⟩
                go_wp2
                go_ret
                exact ⟨by simp, (by (try show Below _ _ _); repeat (first | (with_reducible refine Below.setCell ?_ (by first | omega | (simp <;> omega)) _) | (with_reducible refine Below.alloc ?_ (by first | omega | (simp <;> omega)) _) | (with_reducible refine Below.drew ?_) | (with_reducible exact Below.refl _ _) | (with_reducible refine below_call ?_ (by assumption) (by first | omega | (simp <;> omega))) | (with_reducible refine below_call ?_ (Drew.below (by assumption) _) (by first | omega | (simp <;> omega)))))⟩
              | true =>
                cases p7 with
                | false =>
                  go_enter Try.func21, Try.ntmps21
                  go_wp2_with fail
                  refine (h0 _).mono ?_
                  rintro e w0x ⟨rfl, rfl⟩
                  go_wp2_with fail
                  refine (h1 _).mono ?_
                  rintro e w0x ⟨rfl, rfl⟩
                  go_wp2_with fail
                  refine (h2 _).mono ?_
                  rintro e w0x ⟨rfl, rfl⟩
                  go_wp2_with fail
                  refine (h3 _).mono ?_
                  rintro e w0x ⟨rfl, rfl⟩
                  go_wp2_with fail
                  refine (h4 _).mono ?_
                  rintro e w0x ⟨rfl, rfl⟩
                  go_wp2_with fail
                  refine (h5 _).mono ?_
                  rintro e w0x ⟨rfl, rfl⟩
                  go_wp2_with fail
                  refine (h6 _).mono ?_
                  rintro e w0x ⟨rfl, rfl⟩
                  go_wp2_with fail
                  refine (h7 _).mono ?_
                  rintro e w7 ⟨rfl, hb7⟩
                  have hz7 := hb7.size
                  simp only [World.size_alloc] at hz7
                  have hl7 : w.heap.size < w7.heap.size := by omega
                  have hc9 := hb7.cell (p := ⟨w.heap.size, 9, none⟩) (by show w.heap.size < _; simp)
                  go_wp2
                  go_ret
                  exact ⟨by simp, (by (try show Below _ _ _); repeat (first | (with_reducible refine Below.setCell ?_ (by first | omega | (simp <;> omega)) _) | (with_reducible refine Below.alloc ?_ (by first | omega | (simp <;> omega)) _) | (with_reducible refine Below.drew ?_) | (with_reducible exact Below.refl _ _) | (with_reducible exact hb7) | (with_reducible refine below_call ?_ (by assumption) (by first | omega | (simp <;> omega))) | (with_reducible refine below_call ?_ (Drew.below (by assumption) _) (by first | omega | (simp <;> omega)))))⟩
                | true =>
                  cases p8 with
                  | false =>
                    go_enter Try.func21, Try.ntmps21
                    go_wp2_with fail
                    refine (h0 _).mono ?_
                    rintro e w0x ⟨rfl, rfl⟩
                    go_wp2_with fail
                    refine (h1 _).mono ?_
                    rintro e w0x ⟨rfl, rfl⟩
                    go_wp2_with fail
                    refine (h2 _).mono ?_
                    rintro e w0x ⟨rfl, rfl⟩
                    go_wp2_with fail
                    refine (h3 _).mono ?_
                    rintro e w0x ⟨rfl, rfl⟩
                    go_wp2_with fail
                    refine (h4 _).mono ?_
                    rintro e w0x ⟨rfl, rfl⟩
                    go_wp2_with fail
                    refine (h5 _).mono ?_
                    rintro e w0x ⟨rfl, rfl⟩
                    go_wp2_with fail
                    refine (h6 _).mono ?_
                    rintro e w0x ⟨rfl, rfl⟩
                    go_wp2_with fail
                    refine (h7 _).mono ?_
                    rintro e w7 ⟨rfl, hb7⟩
                    have hz7 := hb7.size
                    simp only [World.size_alloc] at hz7
                    have hl7 : w.heap.size < w7.heap.size := by omega
                    have hc9 := hb7.cell (p := ⟨w.heap.size, 9, none⟩) (by show w.heap.size < _; simp)
                    go_wp2_with fail
                    refine (h8 _).mono ?_
                    rintro e w0x ⟨rfl, rfl⟩
                    go_wp2
                    go_ret
                    exact ⟨by simp, (by (try show Below _ _ _); repeat (first | (with_reducible refine Below.setCell ?_ (by first | omega | (simp <;> omega)) _) | (with_reducible refine Below.alloc ?_ (by first | omega | (simp <;> omega)) _) | (with_reducible refine Below.drew ?_) | (with_reducible exact Below.refl _ _) | (with_reducible exact hb7) | (with_reducible refine below_call ?_ (by assumption) (by first | omega | (simp <;> omega))) | (with_reducible refine below_call ?_ (Drew.below (by assumption) _) (by first | omega | (simp <;> omega)))))⟩
                  | true =>
                    go_enter Try.func21, Try.ntmps21
                    go_wp2_with fail
                    refine (h0 _).mono ?_
                    rintro e w0x ⟨rfl, rfl⟩
                    go_wp2_with fail
                    refine (h1 _).mono ?_
                    rintro e w0x ⟨rfl, rfl⟩
                    go_wp2_with fail
                    refine (h2 _).mono ?_
                    rintro e w0x ⟨rfl, rfl⟩
                    go_wp2_with fail
                    refine (h3 _).mono ?_
                    rintro e w0x ⟨rfl, rfl⟩
                    go_wp2_with fail
                    refine (h4 _).mono ?_
                    rintro e w0x ⟨rfl, rfl⟩
                    go_wp2_with fail
                    refine (h5 _).mono ?_
                    rintro e w0x ⟨rfl, rfl⟩
                    go_wp2_with fail
                    refine (h6 _).mono ?_
                    rintro e w0x ⟨rfl, rfl⟩
                    go_wp2_with fail
                    refine (h7 _).mono ?_
                    rintro e w7 ⟨rfl, hb7⟩
                    have hz7 := hb7.size
                    simp only [World.size_alloc] at hz7
                    have hl7 : w.heap.size < w7.heap.size := by omega
                    have hc9 := hb7.cell (p := ⟨w.heap.size, 9, none⟩) (by show w.heap.size < _; simp)
                    go_wp2_with fail
                    refine (h8 _).mono ?_
                    rintro e w0x ⟨rfl, rfl⟩
                    go_wp2
                    go_ret
                    exact ⟨by simp, (by (try show Below _ _ _); repeat (first | (with_reducible refine Below.setCell ?_ (by first | omega | (simp <;> omega)) _) | (with_reducible refine Below.alloc ?_ (by first | omega | (simp <;> omega)) _) | (with_reducible refine Below.drew ?_) | (with_reducible exact Below.refl _ _) | (with_reducible exact hb7) | (with_reducible refine below_call ?_ (by assumption) (by first | omega | (simp <;> omega))) | (with_reducible refine below_call ?_ (Drew.below (by assumption) _) (by first | omega | (simp <;> omega)))))⟩

theorem inT_okSt (r : TR) (c i : Int) : (okRules r && okSt r c i) = (okRules r && inT c 0 r.full && inT i 0 r.most) := by
  have e : okSt r c i = (inT c 0 r.full && inT i 0 r.most) := by
    rw [Bool.eq_iff_iff]
    simp [okSt, btw, inT]
  rw [e, Bool.and_assoc]

set_option maxHeartbeats 1000000 in
theorem refStart_any (r : TR) (c i : Int) (w : World) :
    Calls Try.prog 27 #[rV r, .agg #[.int .i64 c, .int .i64 i]] w fun e w' => e = .returned (.int .i64 (if okRules r && okSt r c i then 0 else 2)) ∧ Below w.heap.size w w' := by
  rw [inT_okSt]
  have h0 := fun W => refRules_any r W
  have h1 := fun W => refIn_any c 0 r.full W
  have h2 := fun W => refIn_any i 0 r.most W
  generalize okRules r = p0 at h0 ⊢
  generalize inT c 0 r.full = p1 at h1 ⊢
  generalize inT i 0 r.most = p2 at h2 ⊢
  obtain ⟨r0, r1, r2, r3, r4, r5, r6, r7, r8, r9⟩ := r
  unfold rV at h0 ⊢
  cases p0 with
  | false =>
    go_enter Try.func27, Try.ntmps27
    go_wp2_with fail
    refine (h0 _).mono ?_
    rintro e w7 ⟨rfl, hb7⟩
    have hz7 := hb7.size
    simp only [World.size_alloc] at hz7
    have hl7 : w.heap.size < w7.heap.size := by omega
    have hl8 : w.heap.size + 1 < w7.heap.size := by omega
    have hc0 := fun o => hb7.cell (p := ⟨w.heap.size, o, none⟩) (by show w.heap.size < _; simp; omega)
    have hc1 := fun o => hb7.cell (p := ⟨w.heap.size + 1, o, none⟩) (by show w.heap.size + 1 < _; simp)
    go_wp2
    go_ret
    exact ⟨by simp, (by (try show Below _ _ _); repeat (first | (with_reducible refine Below.setCell ?_ (by first | omega | (simp <;> omega)) _) | (with_reducible refine Below.alloc ?_ (by first | omega | (simp <;> omega)) _) | (with_reducible refine Below.drew ?_) | (with_reducible exact Below.refl _ _) | (with_reducible exact hb7) | (with_reducible refine below_call ?_ (by assumption) (by first | omega | (simp <;> omega))) | (with_reducible refine below_call ?_ (Drew.below (by assumption) _) (by first | omega | (simp <;> omega)))))⟩
  | true =>
    cases p1 with
    | false =>
      go_enter Try.func27, Try.ntmps27
      go_wp2_with fail
      refine (h0 _).mono ?_
      rintro e w7 ⟨rfl, hb7⟩
      have hz7 := hb7.size
      simp only [World.size_alloc] at hz7
      have hl7 : w.heap.size < w7.heap.size := by omega
      have hl8 : w.heap.size + 1 < w7.heap.size := by omega
      have hc0 := fun o => hb7.cell (p := ⟨w.heap.size, o, none⟩) (by show w.heap.size < _; simp; omega)
      have hc1 := fun o => hb7.cell (p := ⟨w.heap.size + 1, o, none⟩) (by show w.heap.size + 1 < _; simp)
      go_wp2_with fail
      refine (h1 _).mono ?_
      rintro e w0x ⟨rfl, rfl⟩
      go_wp2
      go_ret
      exact ⟨by simp, (by (try show Below _ _ _); repeat (first | (with_reducible refine Below.setCell ?_ (by first | omega | (simp <;> omega)) _) | (with_reducible refine Below.alloc ?_ (by first | omega | (simp <;> omega)) _) | (with_reducible refine Below.drew ?_) | (with_reducible exact Below.refl _ _) | (with_reducible exact hb7) | (with_reducible refine below_call ?_ (by assumption) (by first | omega | (simp <;> omega))) | (with_reducible refine below_call ?_ (Drew.below (by assumption) _) (by first | omega | (simp <;> omega)))))⟩
    | true =>
      cases p2 with
      | false =>
        go_enter Try.func27, Try.ntmps27
        go_wp2_with fail
        refine (h0 _).mono ?_
        rintro e w7 ⟨rfl, hb7⟩
        have hz7 := hb7.size
        simp only [World.size_alloc] at hz7
        have hl7 : w.heap.size < w7.heap.size := by omega
        have hl8 : w.heap.size + 1 < w7.heap.size := by omega
        have hc0 := fun o => hb7.cell (p := ⟨w.heap.size, o, none⟩) (by show w.heap.size < _; simp; omega)
        have hc1 := fun o => hb7.cell (p := ⟨w.heap.size + 1, o, none⟩) (by show w.heap.size + 1 < _; simp)
        go_wp2_with fail
        refine (h1 _).mono ?_
        rintro e w0x ⟨rfl, rfl⟩
        go_wp2_with fail
        refine (h2 _).mono ?_
        rintro e w0x ⟨rfl, rfl⟩
        go_wp2
        go_ret
        exact ⟨by simp, (by (try show Below _ _ _); repeat (first | (with_reducible refine Below.setCell ?_ (by first | omega | (simp <;> omega)) _) | (with_reducible refine Below.alloc ?_ (by first | omega | (simp <;> omega)) _) | (with_reducible refine Below.drew ?_) | (with_reducible exact Below.refl _ _) | (with_reducible exact hb7) | (with_reducible refine below_call ?_ (by assumption) (by first | omega | (simp <;> omega))) | (with_reducible refine below_call ?_ (Drew.below (by assumption) _) (by first | omega | (simp <;> omega)))))⟩
      | true =>
        go_enter Try.func27, Try.ntmps27
        go_wp2_with fail
        refine (h0 _).mono ?_
        rintro e w7 ⟨rfl, hb7⟩
        have hz7 := hb7.size
        simp only [World.size_alloc] at hz7
        have hl7 : w.heap.size < w7.heap.size := by omega
        have hl8 : w.heap.size + 1 < w7.heap.size := by omega
        have hc0 := fun o => hb7.cell (p := ⟨w.heap.size, o, none⟩) (by show w.heap.size < _; simp; omega)
        have hc1 := fun o => hb7.cell (p := ⟨w.heap.size + 1, o, none⟩) (by show w.heap.size + 1 < _; simp)
        go_wp2_with fail
        refine (h1 _).mono ?_
        rintro e w0x ⟨rfl, rfl⟩
        go_wp2_with fail
        refine (h2 _).mono ?_
        rintro e w0x ⟨rfl, rfl⟩
        go_wp2
        go_ret
        exact ⟨by simp, (by (try show Below _ _ _); repeat (first | (with_reducible refine Below.setCell ?_ (by first | omega | (simp <;> omega)) _) | (with_reducible refine Below.alloc ?_ (by first | omega | (simp <;> omega)) _) | (with_reducible refine Below.drew ?_) | (with_reducible exact Below.refl _ _) | (with_reducible exact hb7) | (with_reducible refine below_call ?_ (by assumption) (by first | omega | (simp <;> omega))) | (with_reducible refine below_call ?_ (Drew.below (by assumption) _) (by first | omega | (simp <;> omega)))))⟩

/-- an hour of the reference -/
def refStepS (r : TR) (s : St) (k : Int) : St × Int := ((stepT r s k).1, if (stepT r s k).2 then 1 else 0)

set_option maxHeartbeats 1000000 in
theorem refStep_any (r : TR) (c i k : Int) (hk : 1 ≤ k ∧ k ≤ 3) (h0 : stIn r (c, i)) (hr : TROk r) (w : World) :
    Calls Try.prog 28 #[rV r, .agg #[.int .i64 c, .int .i64 i], .int .i64 k] w fun e w' => e = .returned (.tuple #[sV (stepT r (c, i) k).1, .int .i64 (if (stepT r (c, i) k).2 then 1 else 0)]) ∧ Below w.heap.size w w' := by
  obtain ⟨a1, a2, a3, a4⟩ := h0
  have g1 := hr.g1; have g2 := hr.g2; have u1 := hr.u1; have u2 := hr.u2; have i1 := hr.i1; have i2 := hr.i2; have m1 := hr.m1; have m2 := hr.m2; have e1 := hr.e1; have e2 := hr.e2
  clear hr
  obtain ⟨r0, r1, r2, r3, r4, r5, r6, r7, r8, r9⟩ := r
  simp only at a1 a2 a3 a4 g1 g2 u1 u2 i1 i2 m1 m2 e1 e2
  unfold rV
  have w1 : wrap64 (c + r2) = c + r2 := IntWalk.wrap64_in _ ⟨by omega, by omega⟩
  have w2 : wrap64 (i + r4) = i + r4 := IntWalk.wrap64_in _ ⟨by omega, by omega⟩
  have w3 : wrap64 (i - r6) = i - r6 := IntWalk.wrap64_in _ ⟨by omega, by omega⟩
  have w4 : wrap64 (c - 1) = c - 1 := IntWalk.wrap64_in _ ⟨by omega, by omega⟩
  by_cases k1 : k = 1
  · subst k1
    have hs : stepT ⟨r0, r1, r2, r3, r4, r5, r6, r7, r8, r9⟩ (c, i) 1 = ((min r3 (c + r2), min r5 (i + r4)), false) := rfl
    rw [hs]
    go_enter Try.func28, Try.ntmps28
    go_wp2
    refine bodyPost_ret (v := .tuple #[.agg #[.int .i64 (min r3 (c + r2)), .int .i64 (min r5 (i + r4))], .int .i64 0]) (by simp [results, Try.results28, go_sem]) rfl ⟨rfl, (by (try show Below _ _ _); repeat (first | (with_reducible refine Below.setCell ?_ (by first | omega | (simp <;> omega)) _) | (with_reducible refine Below.alloc ?_ (by first | omega | (simp <;> omega)) _) | (with_reducible refine Below.drew ?_) | (with_reducible exact Below.refl _ _) | (with_reducible refine below_call ?_ (by assumption) (by first | omega | (simp <;> omega))) | (with_reducible refine below_call ?_ (Drew.below (by assumption) _) (by first | omega | (simp <;> omega)))))⟩
  · by_cases k2 : k = 2
    · subst k2
      have hs : stepT ⟨r0, r1, r2, r3, r4, r5, r6, r7, r8, r9⟩ (c, i) 2 = ((c, i), false) := rfl
      rw [hs]
      go_enter Try.func28, Try.ntmps28
      go_wp2
      refine bodyPost_ret (v := .tuple #[.agg #[.int .i64 (c), .int .i64 (i)], .int .i64 0]) (by simp [results, Try.results28, go_sem]) rfl ⟨rfl, (by (try show Below _ _ _); repeat (first | (with_reducible refine Below.setCell ?_ (by first | omega | (simp <;> omega)) _) | (with_reducible refine Below.alloc ?_ (by first | omega | (simp <;> omega)) _) | (with_reducible refine Below.drew ?_) | (with_reducible exact Below.refl _ _) | (with_reducible refine below_call ?_ (by assumption) (by first | omega | (simp <;> omega))) | (with_reducible refine below_call ?_ (Drew.below (by assumption) _) (by first | omega | (simp <;> omega)))))⟩
    · obtain rfl : k = 3 := by omega
      by_cases hi : 0 < i
      · have hs : stepT ⟨r0, r1, r2, r3, r4, r5, r6, r7, r8, r9⟩ (c, i) 3 = ((c, max 0 (i - r6)), false) := by
          unfold stepT
          rw [if_neg (by omega), if_neg (by dsimp only; omega), if_pos hi]
        rw [hs]
        go_enter Try.func28, Try.ntmps28
        go_wp2
        refine bodyPost_ret (v := .tuple #[.agg #[.int .i64 (c), .int .i64 (max 0 (i - r6))], .int .i64 0]) (by simp [results, Try.results28, go_sem]) rfl ⟨rfl, (by (try show Below _ _ _); repeat (first | (with_reducible refine Below.setCell ?_ (by first | omega | (simp <;> omega)) _) | (with_reducible refine Below.alloc ?_ (by first | omega | (simp <;> omega)) _) | (with_reducible refine Below.drew ?_) | (with_reducible exact Below.refl _ _) | (with_reducible refine below_call ?_ (by assumption) (by first | omega | (simp <;> omega))) | (with_reducible refine below_call ?_ (Drew.below (by assumption) _) (by first | omega | (simp <;> omega)))))⟩
      · obtain rfl : i = 0 := by omega
        by_cases hc : 0 < c
        · have hs : stepT ⟨r0, r1, r2, r3, r4, r5, r6, r7, r8, r9⟩ (c, 0) 3 = ((c - 1, 0), true) := by
            unfold stepT
            rw [if_neg (by omega), if_neg (by dsimp only; omega), if_neg hi]
          rw [hs]
          go_enter Try.func28, Try.ntmps28
          go_wp2
          refine bodyPost_ret (v := .tuple #[.agg #[.int .i64 (c - 1), .int .i64 (0)], .int .i64 1]) (by simp [results, Try.results28, go_sem]) rfl ⟨rfl, (by (try show Below _ _ _); repeat (first | (with_reducible refine Below.setCell ?_ (by first | omega | (simp <;> omega)) _) | (with_reducible refine Below.alloc ?_ (by first | omega | (simp <;> omega)) _) | (with_reducible refine Below.drew ?_) | (with_reducible exact Below.refl _ _) | (with_reducible refine below_call ?_ (by assumption) (by first | omega | (simp <;> omega))) | (with_reducible refine below_call ?_ (Drew.below (by assumption) _) (by first | omega | (simp <;> omega)))))⟩
        · obtain rfl : c = 0 := by omega
          have hs : stepT ⟨r0, r1, r2, r3, r4, r5, r6, r7, r8, r9⟩ (0, 0) 3 = ((0, 0), false) := by
            unfold stepT
            rw [if_neg (by omega), if_pos (by simp)]
          rw [hs]
          go_enter Try.func28, Try.ntmps28
          go_wp2
          refine bodyPost_ret (v := .tuple #[.agg #[.int .i64 (0), .int .i64 (0)], .int .i64 0]) (by simp [results, Try.results28, go_sem]) rfl ⟨rfl, (by (try show Below _ _ _); repeat (first | (with_reducible refine Below.setCell ?_ (by first | omega | (simp <;> omega)) _) | (with_reducible refine Below.alloc ?_ (by first | omega | (simp <;> omega)) _) | (with_reducible refine Below.drew ?_) | (with_reducible exact Below.refl _ _) | (with_reducible refine below_call ?_ (by assumption) (by first | omega | (simp <;> omega))) | (with_reducible refine below_call ?_ (Drew.below (by assumption) _) (by first | omega | (simp <;> omega)))))⟩

end Go.Proofs.Ytlkecgjpmnganaa
