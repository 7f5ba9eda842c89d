/- ThawCourses: the walk. -/
import Derived.Test.YtlkecgjpmnganaaThSame
import Derived.Test.YtlkecgjpmnganaaThRef1
import Derived.Test.YtlkecgjpmnganaaThCopy
import Derived.Test.YtlkecgjpmnganaaThKnown
import Derived.Outline
import Derived.StillTailTactics
import Derived.RegionTactic
import Derived.BigQuiet
set_option linter.unusedSimpArgs false
set_option linter.unusedVariables false
namespace Go.Proofs.Ytlkecgjpmnganaa
open Go.RowKit Go.Shelf

theorem course_fold (r : TR) : ∀ (b : List Int) (l : List Bool) (s : St), b.foldl (fun (x : List Bool × St) k => (x.1 ++ [(stepT r x.2 k).2], (stepT r x.2 k).1)) (l, s) = (l ++ (courseS r s b).1, (courseS r s b).2)
  | [], l, s => by simp [courseS]
  | k :: b, l, s => by
    have h1 : courseS r s (k :: b) = ([(stepT r s k).2] ++ (courseS r (stepT r s k).1 b).1, (courseS r (stepT r s k).1 b).2) := course_fold r b _ _
    rw [List.foldl_cons, course_fold r b, h1]
    simp
theorem courseS_cons (r : TR) (s : St) (k : Int) (b : List Int) : courseS r s (k :: b) = ([(stepT r s k).2] ++ (courseS r (stepT r s k).1 b).1, (courseS r (stepT r s k).1 b).2) := course_fold r b _ _
theorem course_at (r : TR) (s : St) (ks : List Int) (k : Nat) (hk : k < ks.length) : (courseS r s ks).1[k]?.getD false = (stepT r (courseS r s (ks.take k)).2 (ks[k]?.getD 0)).2 := by
  have e : ks = ks.take k ++ ks[k] :: ks.drop (k + 1) := by rw [List.getElem_cons_drop, List.take_append_drop]
  have e2 : courseS r s ks = ((courseS r s (ks.take k)).1 ++ (courseS r (courseS r s (ks.take k)).2 (ks[k] :: ks.drop (k + 1))).1, (courseS r (courseS r s (ks.take k)).2 (ks[k] :: ks.drop (k + 1))).2) := by
    conv => lhs; rw [e]
    unfold courseS
    rw [List.foldl_append]
    exact course_fold r _ _ _
  have hl : (courseS r s (ks.take k)).1.length = k := by rw [courseS_len]; simp; omega
  rw [e2]
  simp only
  rw [List.getElem?_append_right (by omega), hl, Nat.sub_self, List.getElem?_eq_getElem hk]
  generalize (courseS r s (ks.take k)).2 = s'
  rw [courseS_cons]
  simp

theorem first_bad (ks : List Int) (n : Nat) (hn : ks.length = n) (h : ks.all okK = false) : ∃ p, p < n ∧ okK (ks[p]?.getD 0) = false ∧ ∀ j, j < p → okK (ks[j]?.getD 0) = true := by
  induction ks generalizing n with
  | nil => simp at h
  | cons x l ih =>
    cases hx : okK x with
    | false => exact ⟨0, by rw [← hn]; simp, by simpa using hx, fun j hj => absurd hj (Nat.not_lt_zero _)⟩
    | true =>
      rw [List.all_cons, hx, Bool.true_and] at h
      obtain ⟨p, h1, h2, h3⟩ := ih _ rfl h
      refine ⟨p + 1, by rw [← hn]; simpa using h1, by simpa using h2, fun j hj => ?_⟩
      cases j with
      | zero => simpa using hx
      | succ j => have := h3 j (by omega); simpa using this

/-- rules and a state as one value -/
def bV (r : TR) (c i : Int) : Value := .agg #[.int .i64 r.frost, .int .i64 r.thaw, .int .i64 r.gain, .int .i64 r.full, .int .i64 r.ice, .int .i64 r.most, .int .i64 r.melt, .int .i64 r.rlow, .int .i64 r.rhigh, .int .i64 r.pull, .int .i64 c, .int .i64 i]


set_option maxRecDepth 100000 in
set_option maxHeartbeats 4000000 in
theorem courses_long (r : TR) (c i : Int) (A : Option Addr) (n cc : Nat) (w : World) (hlo : (150 < n ∧ n ≤ 1000) ∨ 1100 < n) :
    Calls Try.prog 4 #[bV r c i, .slice A n cc] w fun e w' => e = .returned (.bool true) ∧ Below w.heap.size w w' := by
  have hlong := fun (W : World) => long_any n W
  rw [decide_eq_true hlo] at hlong
  have hkn := fun (W : World) => known_any W
  unfold bV
  go_enter Try.func4, Try.ntmps4
  go_wp2_with fail
  refine (hlong _).mono ?_
  rintro e w0x ⟨rfl, rfl⟩
  go_wp2_with fail
  refine (hkn _).mono ?_
  rintro e w5 ⟨rfl, hb5⟩
  go_wp2
  go_ret
  exact ⟨rfl, (by (try show Below _ _ _); repeat (first | (with_reducible refine Below.setCell ?_ (by first | omega | (simp <;> omega)) _) | (with_reducible refine Below.alloc ?_ (by first | omega | (simp <;> omega)) _) | (with_reducible refine Below.drew ?_) | (with_reducible exact Below.refl _ _) | (with_reducible exact hb5) | (with_reducible refine below_call ?_ (by assumption) (by first | omega | (simp <;> omega))) | (with_reducible refine below_call ?_ (Drew.below (by assumption) _) (by first | omega | (simp <;> omega)))))⟩

set_option maxRecDepth 100000 in
set_option maxHeartbeats 4000000 in
theorem courses_bad (r : TR) (c i : Int) (lo : Nat) (A : Option Addr) (n cc : Nat) (ks : List Int) (w : World) (hx : Ints w lo A ks) (h0 : A = none → n = 0 ∧ cc = 0) (hn : Aside (ks.length = n)) (hl : n ≤ maxLen) (hsh : n ≤ 1100) (hlo : ¬ ((150 < n ∧ n ≤ 1000) ∨ 1100 < n)) (her : errC r c i ks ≠ 0) :
    Calls Try.prog 4 #[bV r c i, .slice A n cc] w fun e w' => e = .returned (.bool true) ∧ Below w.heap.size w w' := by
  have hlong := fun (W : World) => long_any n W
  rw [decide_eq_false hlo] at hlong
  have hkn := fun (W : World) => known_any W
  have HX : Aside (Ints w lo A ks) := hx
  have hcp := fun W (hb : Below w.heap.size w W) => copy_25 lo A n cc ks W (intL_at.2 (hx.below hb (Nat.le_refl _))) hn h0 (by omega)
  have hco := fun lo' A' c' W h => course_any r c i lo' A' n c' ks W h hn hl
  have hst := fun (W : World) => refStart_any r c i W
  rw [if_neg her] at hco
  have hec : errC r c i ks = if okRules r && okSt r c i then (if 1000 < n then 5 else if ks.all okK then 0 else 2) else 2 := by unfold errC; rw [hn.out]
  generalize errC r c i ks = er at hec her hco
  generalize (okRules r && okSt r c i) = b1 at hec hst
  rw [show rV r = .agg #[.int .i64 r.frost, .int .i64 r.thaw, .int .i64 r.gain, .int .i64 r.full, .int .i64 r.ice, .int .i64 r.most, .int .i64 r.melt, .int .i64 r.rlow, .int .i64 r.rhigh, .int .i64 r.pull] from rfl] at hco hst
  unfold CoursePost at hco
  simp only [List.length_nil] at hco
  unfold bV
  clear hx hlo
  cases b1 with
  | false =>
    simp only [Bool.false_eq_true, if_false] at hec hst
    subst hec
    go_enter Try.func4, Try.ntmps4
    go_wp2_with fail
    refine (hlong _).mono ?_
    rintro e w0x ⟨rfl, rfl⟩
    go_wp2_with fail
    refine Calls.mono (hcp _ ?_) ?_
    · exact (by (try show Below _ _ _); repeat (first | (with_reducible refine Below.setCell ?_ (by first | omega | (simp <;> omega)) _) | (with_reducible refine Below.alloc ?_ (by first | omega | (simp <;> omega)) _) | (with_reducible refine Below.drew ?_) | (with_reducible exact Below.refl _ _) | (with_reducible refine below_call ?_ (by assumption) (by first | omega | (simp <;> omega))) | (with_reducible refine below_call ?_ (Drew.below (by assumption) _) (by first | omega | (simp <;> omega)))))
    rintro e w1 ⟨A1, c1, rfl, hc1, hc2, hE1, hb1⟩
    have hz1 := hb1.size
    simp only [World.size_alloc] at hz1
    have hE1' : Ints w1 0 A1 ks := (intL_at.1 hE1).mono (Nat.zero_le _)
    have hl0 : w.heap.size < w1.heap.size := by omega
    have hB1 : Below w.heap.size w w1 := (by (try show Below _ _ _); repeat (first | (with_reducible refine Below.setCell ?_ (by first | omega | (simp <;> omega)) _) | (with_reducible refine Below.alloc ?_ (by first | omega | (simp <;> omega)) _) | (with_reducible refine Below.drew ?_) | (with_reducible exact Below.refl _ _) | (with_reducible exact hb1) | (with_reducible refine below_call ?_ (by assumption) (by first | omega | (simp <;> omega))) | (with_reducible refine below_call ?_ (Drew.below (by assumption) _) (by first | omega | (simp <;> omega)))))
    have q0 := (hb1.cell (p := ⟨w.heap.size, 0, none⟩) (by show w.heap.size < _; simp)).trans (show _ = some (.int .i64 r.frost) by simp [go_sem])
    have q1 := (hb1.cell (p := ⟨w.heap.size, 1, none⟩) (by show w.heap.size < _; simp)).trans (show _ = some (.int .i64 r.thaw) by simp [go_sem])
    have q2 := (hb1.cell (p := ⟨w.heap.size, 2, none⟩) (by show w.heap.size < _; simp)).trans (show _ = some (.int .i64 r.gain) by simp [go_sem])
    have q3 := (hb1.cell (p := ⟨w.heap.size, 3, none⟩) (by show w.heap.size < _; simp)).trans (show _ = some (.int .i64 r.full) by simp [go_sem])
    have q4 := (hb1.cell (p := ⟨w.heap.size, 4, none⟩) (by show w.heap.size < _; simp)).trans (show _ = some (.int .i64 r.ice) by simp [go_sem])
    have q5 := (hb1.cell (p := ⟨w.heap.size, 5, none⟩) (by show w.heap.size < _; simp)).trans (show _ = some (.int .i64 r.most) by simp [go_sem])
    have q6 := (hb1.cell (p := ⟨w.heap.size, 6, none⟩) (by show w.heap.size < _; simp)).trans (show _ = some (.int .i64 r.melt) by simp [go_sem])
    have q7 := (hb1.cell (p := ⟨w.heap.size, 7, none⟩) (by show w.heap.size < _; simp)).trans (show _ = some (.int .i64 r.rlow) by simp [go_sem])
    have q8 := (hb1.cell (p := ⟨w.heap.size, 8, none⟩) (by show w.heap.size < _; simp)).trans (show _ = some (.int .i64 r.rhigh) by simp [go_sem])
    have q9 := (hb1.cell (p := ⟨w.heap.size, 9, none⟩) (by show w.heap.size < _; simp)).trans (show _ = some (.int .i64 r.pull) by simp [go_sem])
    have q10 := (hb1.cell (p := ⟨w.heap.size, 10, none⟩) (by show w.heap.size < _; simp)).trans (show _ = some (.int .i64 c) by simp [go_sem])
    have q11 := (hb1.cell (p := ⟨w.heap.size, 11, none⟩) (by show w.heap.size < _; simp)).trans (show _ = some (.int .i64 i) by simp [go_sem])
    clear hE1
    go_wp2_with fail
    refine Calls.mono (hco _ _ _ _ hE1') ?_
    rintro e w2 ⟨A2, c2, rfl, hv1, hv2, hv3, hE2, hb2⟩
    have hz2 := hb2.size
    have hB2 : Below w.heap.size w w2 := hB1.trans (hb2.mono (by omega))
    have hsm := fun W (h1 : Below w1.heap.size w1 W) (h : Below w.heap.size w W) => sameK_self 0 lo A1 c1 A n cc ks W (hE1'.below h1 (Nat.le_refl _)) (HX.below h (Nat.le_refl _)) hn hl
    go_wp2_with fail
    refine Calls.mono (hsm _ ?_ ?_) ?_
    · exact (hb2.alloc hz2 _)
    · exact (hB2.alloc (by omega) _)
    rintro e w3 ⟨rfl, hd3⟩
    have hb3 := hd3.below (w2.heap.size + 1)
    have hz3 := hb3.size
    simp only [World.size_alloc] at hz3
    have e0 := (hb3.cell (p := ⟨w2.heap.size, 0, none⟩) (by show w2.heap.size < _; omega)).trans (show _ = some (.int .i64 0) by simp [go_sem])
    have e1 := (hb3.cell (p := ⟨w2.heap.size, 1, none⟩) (by show w2.heap.size < _; omega)).trans (show _ = some (.int .i64 0) by simp [go_sem])
    have hT3 : Below w2.heap.size w2 w3 := ((Below.refl _ _).alloc (Nat.le_refl _) _).trans (hb3.mono (by omega))
    have hT13 : Below w1.heap.size w1 w3 := hb2.trans (hT3.mono hz2)
    replace q0 := (hT13.cell (p := ⟨w.heap.size, 0, none⟩) hl0).trans q0
    replace q1 := (hT13.cell (p := ⟨w.heap.size, 1, none⟩) hl0).trans q1
    replace q2 := (hT13.cell (p := ⟨w.heap.size, 2, none⟩) hl0).trans q2
    replace q3 := (hT13.cell (p := ⟨w.heap.size, 3, none⟩) hl0).trans q3
    replace q4 := (hT13.cell (p := ⟨w.heap.size, 4, none⟩) hl0).trans q4
    replace q5 := (hT13.cell (p := ⟨w.heap.size, 5, none⟩) hl0).trans q5
    replace q6 := (hT13.cell (p := ⟨w.heap.size, 6, none⟩) hl0).trans q6
    replace q7 := (hT13.cell (p := ⟨w.heap.size, 7, none⟩) hl0).trans q7
    replace q8 := (hT13.cell (p := ⟨w.heap.size, 8, none⟩) hl0).trans q8
    replace q9 := (hT13.cell (p := ⟨w.heap.size, 9, none⟩) hl0).trans q9
    replace q10 := (hT13.cell (p := ⟨w.heap.size, 10, none⟩) hl0).trans q10
    replace q11 := (hT13.cell (p := ⟨w.heap.size, 11, none⟩) hl0).trans q11
    clear hsm hd3 hT13 hb3
    have hl3 : w.heap.size < w3.heap.size := by omega
    go_wp2_with fail
    refine (hst _).mono ?_
    rintro e w4 ⟨rfl, hb4⟩
    have hz4 := hb4.size
    replace e0 := (hb4.cell (p := ⟨w2.heap.size, 0, none⟩) (by show w2.heap.size < _; omega)).trans e0
    replace e1 := (hb4.cell (p := ⟨w2.heap.size, 1, none⟩) (by show w2.heap.size < _; omega)).trans e1
    replace q0 := (hb4.cell (p := ⟨w.heap.size, 0, none⟩) hl3).trans q0
    replace q1 := (hb4.cell (p := ⟨w.heap.size, 1, none⟩) hl3).trans q1
    replace q2 := (hb4.cell (p := ⟨w.heap.size, 2, none⟩) hl3).trans q2
    replace q3 := (hb4.cell (p := ⟨w.heap.size, 3, none⟩) hl3).trans q3
    replace q4 := (hb4.cell (p := ⟨w.heap.size, 4, none⟩) hl3).trans q4
    replace q5 := (hb4.cell (p := ⟨w.heap.size, 5, none⟩) hl3).trans q5
    replace q6 := (hb4.cell (p := ⟨w.heap.size, 6, none⟩) hl3).trans q6
    replace q7 := (hb4.cell (p := ⟨w.heap.size, 7, none⟩) hl3).trans q7
    replace q8 := (hb4.cell (p := ⟨w.heap.size, 8, none⟩) hl3).trans q8
    replace q9 := (hb4.cell (p := ⟨w.heap.size, 9, none⟩) hl3).trans q9
    replace q10 := (hb4.cell (p := ⟨w.heap.size, 10, none⟩) hl3).trans q10
    replace q11 := (hb4.cell (p := ⟨w.heap.size, 11, none⟩) hl3).trans q11
    have hT4 : Below w2.heap.size w2 w4 := hT3.trans (hb4.mono (by omega))
    have hB4 : Below w.heap.size w w4 := hB2.trans (hT4.mono (by omega))
    have hl4 : w.heap.size < w4.heap.size := by omega
    have hl42 : w2.heap.size < w4.heap.size := by omega
    clear hT3 hb4
    go_wp2_with fail
    go_loopg [9, 10] (1) (fun gg v ii wr => v = .int .i64 2 ∧ ii = .int .i64 0 ∧ wr = w4)
    case atStart => exact ⟨rfl, rfl, rfl⟩
    case round =>
      obtain ⟨rfl, rfl, rfl⟩ := hrel
      by_cases hn0 : 0 < n
      · have hn0z : (0 : Int) < (n : Int) := by omega
        go_wp2_with fail
        refine (hkn _).mono ?_
        rintro e w5 ⟨rfl, hb5⟩
        go_wp2
        go_ret
        exact ⟨rfl, hB4.trans (hb5.mono (by omega))⟩
      · have hn0z : ¬ (0 : Int) < (n : Int) := by omega
        go_wp2_with fail
        refine (hkn _).mono ?_
        rintro e w5 ⟨rfl, hb5⟩
        go_wp2
        go_ret
        exact ⟨rfl, hB4.trans (hb5.mono (by omega))⟩
  | true =>
    simp only [if_true] at hec hst
    by_cases hlen : 1000 < n
    · rw [if_pos hlen] at hec
      subst hec
      have hlz : (1000 : Int) < (n : Int) := by omega
      have hn0z : (0 : Int) < (n : Int) := by omega
      go_enter Try.func4, Try.ntmps4
      go_wp2_with fail
      refine (hlong _).mono ?_
      rintro e w0x ⟨rfl, rfl⟩
      go_wp2_with fail
      refine Calls.mono (hcp _ ?_) ?_
      · exact (by (try show Below _ _ _); repeat (first | (with_reducible refine Below.setCell ?_ (by first | omega | (simp <;> omega)) _) | (with_reducible refine Below.alloc ?_ (by first | omega | (simp <;> omega)) _) | (with_reducible refine Below.drew ?_) | (with_reducible exact Below.refl _ _) | (with_reducible refine below_call ?_ (by assumption) (by first | omega | (simp <;> omega))) | (with_reducible refine below_call ?_ (Drew.below (by assumption) _) (by first | omega | (simp <;> omega)))))
      rintro e w1 ⟨A1, c1, rfl, hc1, hc2, hE1, hb1⟩
      have hz1 := hb1.size
      simp only [World.size_alloc] at hz1
      have hE1' : Ints w1 0 A1 ks := (intL_at.1 hE1).mono (Nat.zero_le _)
      have hl0 : w.heap.size < w1.heap.size := by omega
      have hB1 : Below w.heap.size w w1 := (by (try show Below _ _ _); repeat (first | (with_reducible refine Below.setCell ?_ (by first | omega | (simp <;> omega)) _) | (with_reducible refine Below.alloc ?_ (by first | omega | (simp <;> omega)) _) | (with_reducible refine Below.drew ?_) | (with_reducible exact Below.refl _ _) | (with_reducible exact hb1) | (with_reducible refine below_call ?_ (by assumption) (by first | omega | (simp <;> omega))) | (with_reducible refine below_call ?_ (Drew.below (by assumption) _) (by first | omega | (simp <;> omega)))))
      have q0 := (hb1.cell (p := ⟨w.heap.size, 0, none⟩) (by show w.heap.size < _; simp)).trans (show _ = some (.int .i64 r.frost) by simp [go_sem])
      have q1 := (hb1.cell (p := ⟨w.heap.size, 1, none⟩) (by show w.heap.size < _; simp)).trans (show _ = some (.int .i64 r.thaw) by simp [go_sem])
      have q2 := (hb1.cell (p := ⟨w.heap.size, 2, none⟩) (by show w.heap.size < _; simp)).trans (show _ = some (.int .i64 r.gain) by simp [go_sem])
      have q3 := (hb1.cell (p := ⟨w.heap.size, 3, none⟩) (by show w.heap.size < _; simp)).trans (show _ = some (.int .i64 r.full) by simp [go_sem])
      have q4 := (hb1.cell (p := ⟨w.heap.size, 4, none⟩) (by show w.heap.size < _; simp)).trans (show _ = some (.int .i64 r.ice) by simp [go_sem])
      have q5 := (hb1.cell (p := ⟨w.heap.size, 5, none⟩) (by show w.heap.size < _; simp)).trans (show _ = some (.int .i64 r.most) by simp [go_sem])
      have q6 := (hb1.cell (p := ⟨w.heap.size, 6, none⟩) (by show w.heap.size < _; simp)).trans (show _ = some (.int .i64 r.melt) by simp [go_sem])
      have q7 := (hb1.cell (p := ⟨w.heap.size, 7, none⟩) (by show w.heap.size < _; simp)).trans (show _ = some (.int .i64 r.rlow) by simp [go_sem])
      have q8 := (hb1.cell (p := ⟨w.heap.size, 8, none⟩) (by show w.heap.size < _; simp)).trans (show _ = some (.int .i64 r.rhigh) by simp [go_sem])
      have q9 := (hb1.cell (p := ⟨w.heap.size, 9, none⟩) (by show w.heap.size < _; simp)).trans (show _ = some (.int .i64 r.pull) by simp [go_sem])
      have q10 := (hb1.cell (p := ⟨w.heap.size, 10, none⟩) (by show w.heap.size < _; simp)).trans (show _ = some (.int .i64 c) by simp [go_sem])
      have q11 := (hb1.cell (p := ⟨w.heap.size, 11, none⟩) (by show w.heap.size < _; simp)).trans (show _ = some (.int .i64 i) by simp [go_sem])
      clear hE1
      go_wp2_with fail
      refine Calls.mono (hco _ _ _ _ hE1') ?_
      rintro e w2 ⟨A2, c2, rfl, hv1, hv2, hv3, hE2, hb2⟩
      have hz2 := hb2.size
      have hB2 : Below w.heap.size w w2 := hB1.trans (hb2.mono (by omega))
      have hsm := fun W (h1 : Below w1.heap.size w1 W) (h : Below w.heap.size w W) => sameK_self 0 lo A1 c1 A n cc ks W (hE1'.below h1 (Nat.le_refl _)) (HX.below h (Nat.le_refl _)) hn hl
      go_wp2_with fail
      refine Calls.mono (hsm _ ?_ ?_) ?_
      · exact (hb2.alloc hz2 _)
      · exact (hB2.alloc (by omega) _)
      rintro e w3 ⟨rfl, hd3⟩
      have hb3 := hd3.below (w2.heap.size + 1)
      have hz3 := hb3.size
      simp only [World.size_alloc] at hz3
      have e0 := (hb3.cell (p := ⟨w2.heap.size, 0, none⟩) (by show w2.heap.size < _; omega)).trans (show _ = some (.int .i64 0) by simp [go_sem])
      have e1 := (hb3.cell (p := ⟨w2.heap.size, 1, none⟩) (by show w2.heap.size < _; omega)).trans (show _ = some (.int .i64 0) by simp [go_sem])
      have hT3 : Below w2.heap.size w2 w3 := ((Below.refl _ _).alloc (Nat.le_refl _) _).trans (hb3.mono (by omega))
      have hT13 : Below w1.heap.size w1 w3 := hb2.trans (hT3.mono hz2)
      replace q0 := (hT13.cell (p := ⟨w.heap.size, 0, none⟩) hl0).trans q0
      replace q1 := (hT13.cell (p := ⟨w.heap.size, 1, none⟩) hl0).trans q1
      replace q2 := (hT13.cell (p := ⟨w.heap.size, 2, none⟩) hl0).trans q2
      replace q3 := (hT13.cell (p := ⟨w.heap.size, 3, none⟩) hl0).trans q3
      replace q4 := (hT13.cell (p := ⟨w.heap.size, 4, none⟩) hl0).trans q4
      replace q5 := (hT13.cell (p := ⟨w.heap.size, 5, none⟩) hl0).trans q5
      replace q6 := (hT13.cell (p := ⟨w.heap.size, 6, none⟩) hl0).trans q6
      replace q7 := (hT13.cell (p := ⟨w.heap.size, 7, none⟩) hl0).trans q7
      replace q8 := (hT13.cell (p := ⟨w.heap.size, 8, none⟩) hl0).trans q8
      replace q9 := (hT13.cell (p := ⟨w.heap.size, 9, none⟩) hl0).trans q9
      replace q10 := (hT13.cell (p := ⟨w.heap.size, 10, none⟩) hl0).trans q10
      replace q11 := (hT13.cell (p := ⟨w.heap.size, 11, none⟩) hl0).trans q11
      clear hsm hd3 hT13 hb3
      have hl3 : w.heap.size < w3.heap.size := by omega
      go_wp2_with fail
      refine (hst _).mono ?_
      rintro e w4 ⟨rfl, hb4⟩
      have hz4 := hb4.size
      replace e0 := (hb4.cell (p := ⟨w2.heap.size, 0, none⟩) (by show w2.heap.size < _; omega)).trans e0
      replace e1 := (hb4.cell (p := ⟨w2.heap.size, 1, none⟩) (by show w2.heap.size < _; omega)).trans e1
      replace q0 := (hb4.cell (p := ⟨w.heap.size, 0, none⟩) hl3).trans q0
      replace q1 := (hb4.cell (p := ⟨w.heap.size, 1, none⟩) hl3).trans q1
      replace q2 := (hb4.cell (p := ⟨w.heap.size, 2, none⟩) hl3).trans q2
      replace q3 := (hb4.cell (p := ⟨w.heap.size, 3, none⟩) hl3).trans q3
      replace q4 := (hb4.cell (p := ⟨w.heap.size, 4, none⟩) hl3).trans q4
      replace q5 := (hb4.cell (p := ⟨w.heap.size, 5, none⟩) hl3).trans q5
      replace q6 := (hb4.cell (p := ⟨w.heap.size, 6, none⟩) hl3).trans q6
      replace q7 := (hb4.cell (p := ⟨w.heap.size, 7, none⟩) hl3).trans q7
      replace q8 := (hb4.cell (p := ⟨w.heap.size, 8, none⟩) hl3).trans q8
      replace q9 := (hb4.cell (p := ⟨w.heap.size, 9, none⟩) hl3).trans q9
      replace q10 := (hb4.cell (p := ⟨w.heap.size, 10, none⟩) hl3).trans q10
      replace q11 := (hb4.cell (p := ⟨w.heap.size, 11, none⟩) hl3).trans q11
      have hT4 : Below w2.heap.size w2 w4 := hT3.trans (hb4.mono (by omega))
      have hB4 : Below w.heap.size w w4 := hB2.trans (hT4.mono (by omega))
      have hl4 : w.heap.size < w4.heap.size := by omega
      have hl42 : w2.heap.size < w4.heap.size := by omega
      clear hT3 hb4
      go_wp2_with fail
      go_loopg [9, 10] (1) (fun gg v ii wr => v = .int .i64 5 ∧ ii = .int .i64 0 ∧ wr = w4)
      case atStart => exact ⟨rfl, rfl, rfl⟩
      case round =>
        obtain ⟨rfl, rfl, rfl⟩ := hrel
        go_wp2_with fail
        refine (hkn _).mono ?_
        rintro e w5 ⟨rfl, hb5⟩
        go_wp2
        go_ret
        exact ⟨rfl, hB4.trans (hb5.mono (by omega))⟩
    · rw [if_neg hlen] at hec
      have hlz : ¬ (1000 : Int) < (n : Int) := by omega
      have hall : ks.all okK = false := by
        cases h : ks.all okK with
        | false => rfl
        | true => rw [h] at hec; exact absurd hec her
      rw [hall] at hec
      simp only [Bool.false_eq_true, if_false] at hec
      subst hec
      obtain ⟨p, hp, hpb, hpk⟩ : ∃ p, p < n ∧ okK (ks[p]?.getD 0) = false ∧ ∀ j, j < p → okK (ks[j]?.getD 0) = true := first_bad ks n hn.out hall
      have HP := Lib.hid hpk
      clear hpk hall
      go_enter Try.func4, Try.ntmps4
      go_wp2_with fail
      refine (hlong _).mono ?_
      rintro e w0x ⟨rfl, rfl⟩
      go_wp2_with fail
      refine Calls.mono (hcp _ ?_) ?_
      · exact (by (try show Below _ _ _); repeat (first | (with_reducible refine Below.setCell ?_ (by first | omega | (simp <;> omega)) _) | (with_reducible refine Below.alloc ?_ (by first | omega | (simp <;> omega)) _) | (with_reducible refine Below.drew ?_) | (with_reducible exact Below.refl _ _) | (with_reducible refine below_call ?_ (by assumption) (by first | omega | (simp <;> omega))) | (with_reducible refine below_call ?_ (Drew.below (by assumption) _) (by first | omega | (simp <;> omega)))))
      rintro e w1 ⟨A1, c1, rfl, hc1, hc2, hE1, hb1⟩
      have hz1 := hb1.size
      simp only [World.size_alloc] at hz1
      have hE1' : Ints w1 0 A1 ks := (intL_at.1 hE1).mono (Nat.zero_le _)
      have hl0 : w.heap.size < w1.heap.size := by omega
      have hB1 : Below w.heap.size w w1 := (by (try show Below _ _ _); repeat (first | (with_reducible refine Below.setCell ?_ (by first | omega | (simp <;> omega)) _) | (with_reducible refine Below.alloc ?_ (by first | omega | (simp <;> omega)) _) | (with_reducible refine Below.drew ?_) | (with_reducible exact Below.refl _ _) | (with_reducible exact hb1) | (with_reducible refine below_call ?_ (by assumption) (by first | omega | (simp <;> omega))) | (with_reducible refine below_call ?_ (Drew.below (by assumption) _) (by first | omega | (simp <;> omega)))))
      have q0 := (hb1.cell (p := ⟨w.heap.size, 0, none⟩) (by show w.heap.size < _; simp)).trans (show _ = some (.int .i64 r.frost) by simp [go_sem])
      have q1 := (hb1.cell (p := ⟨w.heap.size, 1, none⟩) (by show w.heap.size < _; simp)).trans (show _ = some (.int .i64 r.thaw) by simp [go_sem])
      have q2 := (hb1.cell (p := ⟨w.heap.size, 2, none⟩) (by show w.heap.size < _; simp)).trans (show _ = some (.int .i64 r.gain) by simp [go_sem])
      have q3 := (hb1.cell (p := ⟨w.heap.size, 3, none⟩) (by show w.heap.size < _; simp)).trans (show _ = some (.int .i64 r.full) by simp [go_sem])
      have q4 := (hb1.cell (p := ⟨w.heap.size, 4, none⟩) (by show w.heap.size < _; simp)).trans (show _ = some (.int .i64 r.ice) by simp [go_sem])
      have q5 := (hb1.cell (p := ⟨w.heap.size, 5, none⟩) (by show w.heap.size < _; simp)).trans (show _ = some (.int .i64 r.most) by simp [go_sem])
      have q6 := (hb1.cell (p := ⟨w.heap.size, 6, none⟩) (by show w.heap.size < _; simp)).trans (show _ = some (.int .i64 r.melt) by simp [go_sem])
      have q7 := (hb1.cell (p := ⟨w.heap.size, 7, none⟩) (by show w.heap.size < _; simp)).trans (show _ = some (.int .i64 r.rlow) by simp [go_sem])
      have q8 := (hb1.cell (p := ⟨w.heap.size, 8, none⟩) (by show w.heap.size < _; simp)).trans (show _ = some (.int .i64 r.rhigh) by simp [go_sem])
      have q9 := (hb1.cell (p := ⟨w.heap.size, 9, none⟩) (by show w.heap.size < _; simp)).trans (show _ = some (.int .i64 r.pull) by simp [go_sem])
      have q10 := (hb1.cell (p := ⟨w.heap.size, 10, none⟩) (by show w.heap.size < _; simp)).trans (show _ = some (.int .i64 c) by simp [go_sem])
      have q11 := (hb1.cell (p := ⟨w.heap.size, 11, none⟩) (by show w.heap.size < _; simp)).trans (show _ = some (.int .i64 i) by simp [go_sem])
      clear hE1
      go_wp2_with fail
      refine Calls.mono (hco _ _ _ _ hE1') ?_
      rintro e w2 ⟨A2, c2, rfl, hv1, hv2, hv3, hE2, hb2⟩
      have hz2 := hb2.size
      have hB2 : Below w.heap.size w w2 := hB1.trans (hb2.mono (by omega))
      have hsm := fun W (h1 : Below w1.heap.size w1 W) (h : Below w.heap.size w W) => sameK_self 0 lo A1 c1 A n cc ks W (hE1'.below h1 (Nat.le_refl _)) (HX.below h (Nat.le_refl _)) hn hl
      go_wp2_with fail
      refine Calls.mono (hsm _ ?_ ?_) ?_
      · exact (hb2.alloc hz2 _)
      · exact (hB2.alloc (by omega) _)
      rintro e w3 ⟨rfl, hd3⟩
      have hb3 := hd3.below (w2.heap.size + 1)
      have hz3 := hb3.size
      simp only [World.size_alloc] at hz3
      have e0 := (hb3.cell (p := ⟨w2.heap.size, 0, none⟩) (by show w2.heap.size < _; omega)).trans (show _ = some (.int .i64 0) by simp [go_sem])
      have e1 := (hb3.cell (p := ⟨w2.heap.size, 1, none⟩) (by show w2.heap.size < _; omega)).trans (show _ = some (.int .i64 0) by simp [go_sem])
      have hT3 : Below w2.heap.size w2 w3 := ((Below.refl _ _).alloc (Nat.le_refl _) _).trans (hb3.mono (by omega))
      have hT13 : Below w1.heap.size w1 w3 := hb2.trans (hT3.mono hz2)
      replace q0 := (hT13.cell (p := ⟨w.heap.size, 0, none⟩) hl0).trans q0
      replace q1 := (hT13.cell (p := ⟨w.heap.size, 1, none⟩) hl0).trans q1
      replace q2 := (hT13.cell (p := ⟨w.heap.size, 2, none⟩) hl0).trans q2
      replace q3 := (hT13.cell (p := ⟨w.heap.size, 3, none⟩) hl0).trans q3
      replace q4 := (hT13.cell (p := ⟨w.heap.size, 4, none⟩) hl0).trans q4
      replace q5 := (hT13.cell (p := ⟨w.heap.size, 5, none⟩) hl0).trans q5
      replace q6 := (hT13.cell (p := ⟨w.heap.size, 6, none⟩) hl0).trans q6
      replace q7 := (hT13.cell (p := ⟨w.heap.size, 7, none⟩) hl0).trans q7
      replace q8 := (hT13.cell (p := ⟨w.heap.size, 8, none⟩) hl0).trans q8
      replace q9 := (hT13.cell (p := ⟨w.heap.size, 9, none⟩) hl0).trans q9
      replace q10 := (hT13.cell (p := ⟨w.heap.size, 10, none⟩) hl0).trans q10
      replace q11 := (hT13.cell (p := ⟨w.heap.size, 11, none⟩) hl0).trans q11
      clear hsm hd3 hT13 hb3
      have hl3 : w.heap.size < w3.heap.size := by omega
      go_wp2_with fail
      refine (hst _).mono ?_
      rintro e w4 ⟨rfl, hb4⟩
      have hz4 := hb4.size
      replace e0 := (hb4.cell (p := ⟨w2.heap.size, 0, none⟩) (by show w2.heap.size < _; omega)).trans e0
      replace e1 := (hb4.cell (p := ⟨w2.heap.size, 1, none⟩) (by show w2.heap.size < _; omega)).trans e1
      replace q0 := (hb4.cell (p := ⟨w.heap.size, 0, none⟩) hl3).trans q0
      replace q1 := (hb4.cell (p := ⟨w.heap.size, 1, none⟩) hl3).trans q1
      replace q2 := (hb4.cell (p := ⟨w.heap.size, 2, none⟩) hl3).trans q2
      replace q3 := (hb4.cell (p := ⟨w.heap.size, 3, none⟩) hl3).trans q3
      replace q4 := (hb4.cell (p := ⟨w.heap.size, 4, none⟩) hl3).trans q4
      replace q5 := (hb4.cell (p := ⟨w.heap.size, 5, none⟩) hl3).trans q5
      replace q6 := (hb4.cell (p := ⟨w.heap.size, 6, none⟩) hl3).trans q6
      replace q7 := (hb4.cell (p := ⟨w.heap.size, 7, none⟩) hl3).trans q7
      replace q8 := (hb4.cell (p := ⟨w.heap.size, 8, none⟩) hl3).trans q8
      replace q9 := (hb4.cell (p := ⟨w.heap.size, 9, none⟩) hl3).trans q9
      replace q10 := (hb4.cell (p := ⟨w.heap.size, 10, none⟩) hl3).trans q10
      replace q11 := (hb4.cell (p := ⟨w.heap.size, 11, none⟩) hl3).trans q11
      have hT4 : Below w2.heap.size w2 w4 := hT3.trans (hb4.mono (by omega))
      have hB4 : Below w.heap.size w w4 := hB2.trans (hT4.mono (by omega))
      have hl4 : w.heap.size < w4.heap.size := by omega
      have hl42 : w2.heap.size < w4.heap.size := by omega
      clear hT3 hb4
      go_wp2_with fail
      go_loopg [9, 10] (n) (fun gg v ii wr => ∃ k : Nat, k ≤ p + 1 ∧ n - k ≤ gg ∧ v = .int .i64 (if k ≤ p then 0 else 2) ∧ ii = .int .i64 k ∧ wr = w4)
      case atStart => exact ⟨0, Nat.zero_le _, Nat.le_refl _, by rw [if_pos (Nat.zero_le _)], rfl, rfl⟩
      case round =>
        obtain ⟨k, hk, hg, rfl, rfl, rfl⟩ := hrel
        by_cases hkp : k ≤ p
        · rw [if_pos hkp]
          obtain ⟨bb, oo, hA, _, hlb, hcs⟩ := HX.out (by have := hn.out; omega)
          subst hA
          have e5 := (hB4.cell (p := ⟨bb, oo + k, none⟩) hlb).trans (hcs k (by have := hn.out; omega))
          have hkz : (k : Int) < (n : Int) := by omega
          have hk0 : (0 : Int) ≤ (k : Int) := by omega
          have hlbr : bb < wr.heap.size := by omega
          clear hcs
          by_cases hke : k = p
          · subst hke
            generalize ks[k]?.getD 0 = kk at e5 hpb
            have hkk : kk < 1 ∨ ¬ kk < 1 ∧ 3 < kk := by simp [okK] at hpb; omega
            rcases hkk with h1 | ⟨h1, h2⟩
            · go_wp2
              go_roundg (n - (k + 1))
              case measure => omega
              case rel => exact ⟨k + 1, by omega, by omega, by rw [if_neg (by omega)], by go_num, rfl⟩
            · go_wp2
              go_roundg (n - (k + 1))
              case measure => omega
              case rel => exact ⟨k + 1, by omega, by omega, by rw [if_neg (by omega)], by go_num, rfl⟩
          · have hpk := HP.out k (by omega)
            generalize ks[k]?.getD 0 = kk at e5 hpk
            have h1 : ¬ kk < 1 := by simp [okK] at hpk; omega
            have h2 : ¬ 3 < kk := by simp [okK] at hpk; omega
            go_wp2
            go_roundg (n - (k + 1))
            case measure => omega
            case rel => exact ⟨k + 1, by omega, by omega, by rw [if_pos (by omega)], by go_num, rfl⟩
        · rw [if_neg hkp]
          by_cases hkn2 : k < n
          · have hkz : (k : Int) < (n : Int) := by omega
            go_wp2_with fail
            refine (hkn _).mono ?_
            rintro e w5 ⟨rfl, hb5⟩
            go_wp2
            go_ret
            exact ⟨rfl, hB4.trans (hb5.mono (by omega))⟩
          · have hkz : ¬ (k : Int) < (n : Int) := by omega
            go_wp2_with fail
            refine (hkn _).mono ?_
            rintro e w5 ⟨rfl, hb5⟩
            go_wp2
            go_ret
            exact ⟨rfl, hB4.trans (hb5.mono (by omega))⟩

end Go.Proofs.Ytlkecgjpmnganaa
