/- spilelaw04.known returns true. -/
import Derived.Test.YtlkecgjpmnganaaThKnown0
import Derived.Outline
import Derived.StillTailTactics
set_option linter.unusedSimpArgs false
set_option linter.unusedVariables false
namespace Go.Proofs.Ytlkecgjpmnganaa
open Go.RowKit Go.Shelf

theorem ints_C0 (w : World) (t : TypeId) : Ints (w.alloc (.cells #[.int .i64 1, .int .i64 1, .int .i64 1, .int .i64 3, .int .i64 3, .int .i64 3, .int .i64 3] t)) 0 (some ⟨w.heap.size, 0, none⟩) C0 := by
  intro _
  refine ⟨w.heap.size, 0, rfl, Nat.zero_le _, by simp, fun j hj => ?_⟩
  have hj' : j = 0 ∨ j = 1 ∨ j = 2 ∨ j = 3 ∨ j = 4 ∨ j = 5 ∨ j = 6 := by simp [C0] at hj; omega
  rcases hj' with rfl | rfl | rfl | rfl | rfl | rfl | rfl <;> simp [go_sem, C0]

theorem k0_course (w : World) (A : Option Addr) (hx : Ints w 0 A C0) :
    Calls Try.prog 26 #[rV R0, .agg #[.int .i64 0, .int .i64 0], .slice A 7 7] w fun e w' => (∃ b o c, e = .returned (.tuple #[.slice (some ⟨b, o, none⟩) 7 c, .agg #[.int .i64 3, .int .i64 0], .int .i64 0]) ∧ b < w'.heap.size ∧ w'.cell? ⟨b, o + 4, none⟩ = some (.bool false) ∧ w'.cell? ⟨b, o + 5, none⟩ = some (.bool true)) ∧ Below w.heap.size w w' := by
  refine (course_any R0 0 0 0 A 7 7 C0 w hx rfl (by unfold maxLen; omega)).mono ?_
  rw [show errC R0 0 0 C0 = 0 by decide, if_pos rfl, show courseS R0 (0, 0) C0 = ([false, false, false, false, false, true, true], (3, 0)) by decide]
  rintro e w' ⟨B, c, rfl, _, _, _, hE, hb⟩
  obtain ⟨b, o, rfl, _, hl, hc⟩ := hE (by simp)
  have h4 := hc 4 (by simp)
  have h5 := hc 5 (by simp)
  exact ⟨⟨b, o, c, rfl, hl, h4, h5⟩, hb⟩
theorem k0_kinds (w : World) :
    Calls Try.prog 20 #[rV R0, .agg #[.int .i64 20, .int .i64 21]] w fun e w' => (∃ b o c, e = .returned (.tuple #[.slice (some ⟨b, o, none⟩) 2 c, .int .i64 0]) ∧ b < w'.heap.size ∧ w'.cell? ⟨b, o + 1, none⟩ = some (.int .i64 3)) ∧ Below w.heap.size w w' := by
  refine (kindsAll_any R0 20 21 w).mono ?_
  rw [show errK R0 20 21 = 0 by decide, if_pos rfl, show kindsT R0 20 21 = [2, 3] by decide]
  rintro e w' ⟨B, c, rfl, _, _, _, hE, hb⟩
  obtain ⟨b, o, rfl, _, hl, hc⟩ := hE (by simp)
  have h4 := hc 1 (by simp)
  exact ⟨⟨b, o, c, rfl, hl, h4⟩, hb⟩
theorem k0_Runs (w : World) (A : Option Addr) (lo : Nat) (hx : Ranges w lo A M0) :
    Calls Try.prog 29 #[rV R0, .agg #[.int .i64 0, .int .i64 0], .slice A 5 5] w fun e w' => e = .returned (.tuple #[.agg #[.int .i64 0, .int .i64 2], .int .i64 0]) ∧ Below w.heap.size w w' := by
  refine (runs_any R0 0 0 lo A 5 5 M0 w hx rfl (by unfold maxLen; omega)).mono ?_
  rw [k0_err]
  rintro e w' ⟨x, y, rfl, _, hR, hb⟩
  obtain ⟨rfl, rfl⟩ := k0_runs (hR rfl)
  exact ⟨rfl, hb⟩
theorem k0_ext (w : World) (A : Option Addr) (lo : Nat) (hx : Ranges w lo A M0) :
    Calls Try.prog 31 #[rV R0, .agg #[.int .i64 0, .int .i64 0], .slice A 5 5, .bool true] w fun e w' => (∃ b o c, e = .returned (.tuple #[.slice (some ⟨b, o, none⟩) 5 c, .int .i64 0]) ∧ b < w'.heap.size ∧ w'.cell? ⟨b, o, none⟩ = some (.int .i64 1)) ∧ Below w.heap.size w w' := by
  refine (extreme_any R0 0 0 true lo A 5 5 M0 w hx rfl (by unfold maxLen; omega)).mono ?_
  rw [k0_err, if_pos rfl, show extS R0 true M0 (0, 0) = [1, 3, 3, 3, 3] by decide]
  rintro e w' ⟨B, c, rfl, _, _, _, hE, hb⟩
  obtain ⟨b, o, rfl, _, hl, hc⟩ := hE (by simp)
  have h4 := hc 0 (by simp)
  exact ⟨⟨b, o, c, rfl, hl, h4⟩, hb⟩
theorem k0_First (w : World) (A : Option Addr) (lo : Nat) (hx : Ranges w lo A M0) :
    Calls Try.prog 39 #[rV R0, .agg #[.int .i64 0, .int .i64 0], .slice A 5 5] w fun e w' => e = .returned (.tuple #[.int .i64 2, .int .i64 (-1), .int .i64 0]) ∧ Below w.heap.size w w' := by
  refine (first_any R0 0 0 lo A 5 5 M0 w hx rfl (by unfold maxLen; omega)).mono ?_
  rw [k0_err, k0_first]
  rintro e w' ⟨rfl, hb⟩
  exact ⟨rfl, hb⟩
def G0 : List Gp := [⟨10, 5000, 6000⟩]
theorem gp_one (w : World) (t : TypeId) (x y z : Int) : gpL.at (w.alloc (.cells #[.int .i64 x, .int .i64 y, .int .i64 z] t)) 0 (some ⟨w.heap.size, 0, none⟩) [⟨x, y, z⟩] := by
  intro _
  refine ⟨w.heap.size, 0, rfl, Nat.zero_le _, by simp, fun j i hj hi => ?_⟩
  obtain rfl : j = 0 := by simpa using hj
  have hi' : i = 0 ∨ i = 1 ∨ i = 2 := by
    have : i < 3 := hi
    omega
  rcases hi' with rfl | rfl | rfl <;> simp [go_sem, gpL]
theorem k0_gives (w : World) (A : Option Addr) (hx : gpL.at w 0 A G0) :
    Calls Try.prog 47 #[rV R0, .slice A 1 1] w fun e w' => e = .returned (.tuple #[.agg #[.int .i64 7500, .int .i64 12800], .int .i64 0]) ∧ Below w.heap.size w w' := by
  refine (gives_any R0 0 A 1 1 G0 w hx rfl (by unfold maxLen; omega)).mono ?_
  rw [show errG R0 G0 = 0 by decide, if_pos rfl]
  rintro e w' ⟨rfl, hb⟩
  exact ⟨rfl, hb⟩

theorem cup {B : Nat} {W W' : World} {p : Addr} {v : Value} (hb : Below B W W') (hB : p.block < B) (h : W.cell? p = some v) : W'.cell? p = some v := (hb.cell hB).trans h

set_option maxRecDepth 100000 in
set_option maxHeartbeats 4000000 in
theorem known_any (w : World) :
    Calls Try.prog 15 #[] w fun e w' => e = .returned (.bool true) ∧ Below w.heap.size w w' := by
  have hR := fun (W : World) => rules_any W
  have hC := fun (W : World) A h => k0_course W A h
  have hK := fun (W : World) => k0_kinds W
  have hM := fun (W : World) => morning_any W
  have hN := fun (W : World) A lo h => k0_Runs W A lo h
  have hE := fun (W : World) A lo h => k0_ext W A lo h
  have hF := fun (W : World) A lo h => k0_First W A lo h
  have hG := fun (W : World) A h => k0_gives W A h
  unfold rV R0 at hR hC hK hN hE hF hG
  go_enter Try.func15, Try.ntmps15
  go_wp2_with fail
  refine (hR _).mono ?_
  rintro e w1 ⟨rfl, hb1⟩
  have hz1 := hb1.size
  go_wp2_with fail
  refine Calls.mono (hC _ _ (ints_C0 _ _)) ?_
  rintro e w2 ⟨⟨b1, o1, c1, rfl, hl1, hq4, hq5⟩, hb2⟩
  have hz2 := hb2.size
  simp only [World.size_alloc] at hz2
  have hB2 : Below w.heap.size w w2 := (by (try show Below _ _ _); repeat (first | (with_reducible refine Below.setCell ?_ (by first | omega | (simp <;> omega)) _) | (with_reducible refine Below.alloc ?_ (by first | omega | (simp <;> omega)) _) | (with_reducible refine Below.drew ?_) | (with_reducible exact Below.refl _ _) | (with_reducible exact hb2) | (with_reducible refine below_call ?_ (by assumption) (by first | omega | (simp <;> omega))) | (with_reducible refine below_call ?_ (Drew.below (by assumption) _) (by first | omega | (simp <;> omega)))))
  go_wp2_with fail
  refine (hR _).mono ?_
  rintro e w3 ⟨rfl, hb3⟩
  have hz3 := hb3.size
  simp at hz3
  have hB3 : Below w2.heap.size w2 w3 := (by (try show Below _ _ _); repeat (first | (with_reducible refine Below.setCell ?_ (by first | omega | (simp <;> omega)) _) | (with_reducible refine Below.alloc ?_ (by first | omega | (simp <;> omega)) _) | (with_reducible refine Below.drew ?_) | (with_reducible exact Below.refl _ _) | (with_reducible exact hb3) | (with_reducible refine below_call ?_ (by assumption) (by first | omega | (simp <;> omega))) | (with_reducible refine below_call ?_ (Drew.below (by assumption) _) (by first | omega | (simp <;> omega)))))
  have c0 : w3.cell? ⟨w2.heap.size, 0, none⟩ = some (.int .i64 3) := (hb3.cell (p := ⟨w2.heap.size, 0, none⟩) (by simp)).trans (by simp [go_sem])
  have c1 : w3.cell? ⟨w2.heap.size, 1, none⟩ = some (.int .i64 0) := (hb3.cell (p := ⟨w2.heap.size, 1, none⟩) (by simp)).trans (by simp [go_sem])
  go_wp2_with fail
  refine Calls.mono (hK _) ?_
  rintro e w4 ⟨⟨b2, o2, c2, rfl, hl2, hk1⟩, hb4⟩
  have hz4 := hb4.size
  go_wp2_with fail
  refine Calls.mono (hR _) ?_
  rintro e w5 ⟨rfl, hb5⟩
  have hz5 := hb5.size
  go_wp2_with fail
  refine Calls.mono (hM _) ?_
  rintro e w6 ⟨⟨A6, rfl, hx6⟩, hb6⟩
  have hz6 := hb6.size
  go_wp2_with fail
  refine Calls.mono (hN _ _ _ hx6) ?_
  rintro e w7 ⟨rfl, hb7⟩
  have hz7 := hb7.size
  go_wp2_with fail
  refine Calls.mono (hR _) ?_
  rintro e w8 ⟨rfl, hb8⟩
  have hz8 := hb8.size
  simp at hz8
  have hB8 : Below w7.heap.size w7 w8 := (by (try show Below _ _ _); repeat (first | (with_reducible refine Below.setCell ?_ (by first | omega | (simp <;> omega)) _) | (with_reducible refine Below.alloc ?_ (by first | omega | (simp <;> omega)) _) | (with_reducible refine Below.drew ?_) | (with_reducible exact Below.refl _ _) | (with_reducible exact hb8) | (with_reducible refine below_call ?_ (by assumption) (by first | omega | (simp <;> omega))) | (with_reducible refine below_call ?_ (Drew.below (by assumption) _) (by first | omega | (simp <;> omega)))))
  have n0 : w8.cell? ⟨w7.heap.size, 0, none⟩ = some (.int .i64 0) := (hb8.cell (p := ⟨w7.heap.size, 0, none⟩) (by simp)).trans (by simp [go_sem])
  have n1 : w8.cell? ⟨w7.heap.size, 1, none⟩ = some (.int .i64 2) := (hb8.cell (p := ⟨w7.heap.size, 1, none⟩) (by simp)).trans (by simp [go_sem])
  go_wp2_with fail
  refine Calls.mono (hM _) ?_
  rintro e w9 ⟨⟨A9, rfl, hx9⟩, hb9⟩
  have hz9 := hb9.size
  go_wp2_with fail
  refine Calls.mono (hE _ _ _ hx9) ?_
  rintro e w10 ⟨⟨b3, o3, c3, rfl, hl3, hq0⟩, hb10⟩
  have hz10 := hb10.size
  go_wp2_with fail
  refine Calls.mono (hR _) ?_
  rintro e w11 ⟨rfl, hb11⟩
  have hz11 := hb11.size
  go_wp2_with fail
  refine Calls.mono (hM _) ?_
  rintro e w12 ⟨⟨A12, rfl, hx12⟩, hb12⟩
  have hz12 := hb12.size
  go_wp2_with fail
  refine Calls.mono (hF _ _ _ hx12) ?_
  rintro e w13 ⟨rfl, hb13⟩
  have hz13 := hb13.size
  go_wp2_with fail
  refine Calls.mono (hR _) ?_
  rintro e w14 ⟨rfl, hb14⟩
  have hz14 := hb14.size
  go_wp2_with fail
  refine Calls.mono (hG _ _ (gp_one _ _ _ _ _)) ?_
  rintro e w15 ⟨rfl, hb15⟩
  have hz15 := hb15.size
  simp only [World.size_alloc] at hz15
  have hB15 : Below w14.heap.size w14 w15 := (by (try show Below _ _ _); repeat (first | (with_reducible refine Below.setCell ?_ (by first | omega | (simp <;> omega)) _) | (with_reducible refine Below.alloc ?_ (by first | omega | (simp <;> omega)) _) | (with_reducible refine Below.drew ?_) | (with_reducible exact Below.refl _ _) | (with_reducible exact hb15) | (with_reducible refine below_call ?_ (by assumption) (by first | omega | (simp <;> omega))) | (with_reducible refine below_call ?_ (Drew.below (by assumption) _) (by first | omega | (simp <;> omega)))))
  have T14 := hB15
  have T13 : Below w13.heap.size w13 w15 := hb14.trans (T14.mono (by omega))
  have T12 : Below w12.heap.size w12 w15 := hb13.trans (T13.mono (by omega))
  have T11 : Below w11.heap.size w11 w15 := hb12.trans (T12.mono (by omega))
  have T10 : Below w10.heap.size w10 w15 := hb11.trans (T11.mono (by omega))
  have T9 : Below w9.heap.size w9 w15 := hb10.trans (T10.mono (by omega))
  have T8 : Below w8.heap.size w8 w15 := hb9.trans (T9.mono (by omega))
  have T7 : Below w7.heap.size w7 w15 := hB8.trans (T8.mono (by omega))
  have T6 : Below w6.heap.size w6 w15 := hb7.trans (T7.mono (by omega))
  have T5 : Below w5.heap.size w5 w15 := hb6.trans (T6.mono (by omega))
  have T4 : Below w4.heap.size w4 w15 := hb5.trans (T5.mono (by omega))
  have T3 : Below w3.heap.size w3 w15 := hb4.trans (T4.mono (by omega))
  have T2 : Below w2.heap.size w2 w15 := hB3.trans (T3.mono (by omega))
  have e4 := cup T2 hl1 hq4
  have e5 := cup T2 hl1 hq5
  have e6 := cup T3 (by show w2.heap.size < _; omega) c0
  have e7 := cup T3 (by show w2.heap.size < _; omega) c1
  have e8 := cup T4 hl2 hk1
  have e9 := cup T8 (by show w7.heap.size < _; omega) n0
  have e10 := cup T8 (by show w7.heap.size < _; omega) n1
  have e11 := cup T10 hl3 hq0
  have l1 : b1 < w15.heap.size := by omega
  have l2 : b2 < w15.heap.size := by omega
  have l3 : b3 < w15.heap.size := by omega
  have l4 : w2.heap.size < w15.heap.size := by omega
  have l5 : w7.heap.size < w15.heap.size := by omega
  have hBB : Below w.heap.size w w15 := hB2.trans (T2.mono (by omega))
  clear hR hC hK hM hN hE hF hG
  clear hb1 hz1 hb2 hz2 hb3 hz3 hb4 hz4 hb5 hz5 hb6 hz6 hb7 hz7 hb8 hz8 hb9 hz9 hb10 hz10 hb11 hz11 hb12 hz12 hb13 hz13 hb14 hz14 hb15 hz15 T2 T3 T4 T5 T6 T7 T8 T9 T10 T11 T12 T13 T14 hB2 hB3 hB8 hB15 hx6 hx9 hx12 hq4 hq5 hq0 hk1 c0 c1 n0 n1
  go_wp2
  go_ret
  exact ⟨rfl, hBB.alloc hBB.size _⟩

end Go.Proofs.Ytlkecgjpmnganaa
