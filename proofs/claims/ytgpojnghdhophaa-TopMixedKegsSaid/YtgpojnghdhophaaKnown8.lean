/- spiletop.knownKegs. -/
import Derived.Test.YtgpojnghdhophaaMixed
set_option linter.unusedSimpArgs false
set_option linter.unusedVariables false
namespace Go.Proofs.Ytgpojnghdhophaa
open Go.RowKit Go.Shelf

theorem known8_math : mixedE [⟨340, 660, 800, 2⟩, ⟨680, 1320, 700, 3⟩] = (⟨1020, 1980, 733, 3⟩, 0) := by kernel_rfl

theorem known8_kegs (w : World) (t : TypeId) : Kegs (w.alloc (.cells #[.int .i64 340, .int .i64 660, .int .i64 800, .int .i64 2, .int .i64 680, .int .i64 1320, .int .i64 700, .int .i64 3] t)) 0 (some ⟨w.heap.size, 0, none⟩) [⟨340, 660, 800, 2⟩, ⟨680, 1320, 700, 3⟩] := by
  intro _
  refine ⟨w.heap.size, 0, rfl, Nat.zero_le _, by simp, fun j i hj hi => ?_⟩
  simp only [List.length_cons, List.length_nil] at hj
  have hj' : j = 0 ∨ j = 1 := by omega
  have hi' : i = 0 ∨ i = 1 ∨ i = 2 ∨ i = 3 := by omega
  rcases hj' with rfl | rfl <;> rcases hi' with rfl | rfl | rfl | rfl <;> simp [go_sem, K.cell]

set_option maxHeartbeats 400000 in
theorem knownKegs_any (w : World) :
    Calls Try.prog 7 #[] w fun e w' => e = .returned (.bool true) ∧ Below w.heap.size w w' := by
  have hM := fun (A : Option Addr) (W : World) h => Mixed_any 0 A 2 2 [⟨340, 660, 800, 2⟩, ⟨680, 1320, 700, 3⟩] W h rfl two_le
  rw [known8_math] at hM
  simp only [K.val] at hM
  go_enter Try.func7, Try.ntmps7
  go_wp2_with fail
  refine (hM _ _ (known8_kegs _ _)).mono ?_
  rintro e w1 ⟨rfl, hb1⟩
  have hz1 := hb1.size
  try simp only [World.size_alloc, World.size_setCell] at hz1
  have hc1_0 := fun o => hb1.cell (p := ⟨w.heap.size, o, none⟩) (by show w.heap.size < _; first | omega | (simp only [World.size_alloc, World.size_setCell, World.size_drew]; omega))
  have hf1_0 := fun o => hb1.frozen (p := ⟨w.heap.size, o, none⟩) (by show w.heap.size < _; first | omega | (simp only [World.size_alloc, World.size_setCell, World.size_drew]; omega))
  have hz1_0 : w.heap.size < w1.heap.size := by omega
  go_wp2
  go_ret
  exact ⟨rfl, (by (try show Below _ _ _); repeat (first | (with_reducible refine Below.setCell ?_ (by first | omega | (simp <;> omega)) _) | (with_reducible refine Below.alloc ?_ (by first | omega | (simp <;> omega)) _) | (with_reducible refine Below.drew ?_) | (with_reducible exact Below.refl _ _) | (with_reducible refine below_call ?_ (by assumption) (by first | omega | (simp <;> omega))) | (with_reducible refine below_call ?_ (Drew.below (by assumption) _) (by first | omega | (simp <;> omega)))))⟩

end Go.Proofs.Ytgpojnghdhophaa
