/- spilelaw01.SpanBoiled: the walk (no sugar). -/
import Derived.Test.YtfohdafijfjefaaKnown1
import Derived.Test.YtfohdafijfjefaaRef2
import Derived.Test.YtfohdafijfjefaaBoiledMath
set_option linter.unusedSimpArgs false
set_option linter.unusedVariables false
namespace Go.Proofs.Ytfohdafijfjefaa
open Go.RowKit Go.Shelf

theorem spare_ok (a s b : Int) (ha : 0 ≤ a ∧ a ≤ 4294967295) (hs : 1 ≤ s ∧ s ≤ 4294967295) (hb : 1 ≤ b ∧ b ≤ 10000) : spareS ⟨a, s⟩ b = (s * 10000 / b - (a + s), 0) := by
  unfold spareS
  rw [if_neg (by rw [(okS_iff ⟨a, s⟩).2 (by simp only; omega)]; decide), if_neg (by rw [(btw1 1 10000 b).2 hb]; decide), if_neg (by simp only; omega)]
theorem spare_none (a b : Int) (ha : 0 ≤ a ∧ a ≤ 4294967295) (hb : 1 ≤ b ∧ b ≤ 10000) : spareS ⟨a, 0⟩ b = (0, 7) := by
  unfold spareS
  rw [if_neg (by rw [(okS_iff ⟨a, 0⟩).2 (by simp only; omega)]; decide), if_neg (by rw [(btw1 1 10000 b).2 hb]; decide), if_pos rfl]

set_option maxRecDepth 100000 in
set_option maxHeartbeats 4000000 in
theorem boiled_none (a s bx : Int) (ha : 0 ≤ a ∧ a ≤ 4294967295) (hs : 0 ≤ s ∧ s ≤ 4294967295) (hx : 0 ≤ bx ∧ bx ≤ 65535) (h0 : s = 0) (w : World) :
    Calls Try.prog 5 #[.int .u32 a, .int .u32 s, .int .u16 bx] w fun e w' => e = .returned (.bool true) ∧ Below w.heap.size w w' := by
  subst h0
  have hb : 1 ≤ 1 + bx % 10000 ∧ 1 + bx % 10000 ≤ 10000 := by omega
  have h1 := fun W => Boil_any a 0 (1 + bx % 10000) W
  have h2 := fun W => Thin_any a 0 (1 + bx % 10000) W
  rw [show boilS ⟨a, 0⟩ (1 + bx % 10000) = (0, 7) by unfold boilS; rw [spare_none a _ ha hb]; rfl] at h1
  rw [show thinS ⟨a, 0⟩ (1 + bx % 10000) = (0, 7) by unfold thinS; rw [spare_none a _ ha hb]; rfl] at h2
  have hk := fun W => known1_any W
  simp only [IE] at h1 h2
  go_enter Try.func5, Try.ntmps5
  go_wp2_with fail
  refine (h1 _).mono ?_
  rintro e w1 ⟨rfl, hb1⟩
  have hz1 := hb1.size
  (try simp only [World.size_alloc, World.size_setCell, World.size_drew] at hz1)
  have f1_b0_0 : w1.cell? ⟨w.heap.size, 0, none⟩ = some (.int .i64 a) := (hb1.cell (p := ⟨w.heap.size, 0, none⟩) (by show w.heap.size < _; first | omega | (simp only [World.size_alloc, World.size_setCell, World.size_drew]; omega))).trans (by simp [go_sem, cell_set])
  have f1_b0_1 : w1.cell? ⟨w.heap.size, 1, none⟩ = some (.int .i64 0) := (hb1.cell (p := ⟨w.heap.size, 1, none⟩) (by show w.heap.size < _; first | omega | (simp only [World.size_alloc, World.size_setCell, World.size_drew]; omega))).trans (by simp [go_sem, cell_set])
  have hB1 : Below w.heap.size w w1 := (by (try show Below _ _ _); repeat (first | (with_reducible refine Below.setCell ?_ (by first | omega | (simp <;> omega)) _) | (with_reducible refine Below.alloc ?_ (by first | omega | (simp <;> omega)) _) | (with_reducible refine Below.drew ?_) | (with_reducible exact Below.refl _ _) | (with_reducible exact Below.refl _ _) | (with_reducible refine below_call ?_ (by assumption) (by first | omega | (simp <;> omega))) | (with_reducible refine below_call ?_ (Drew.below (by assumption) _) (by first | omega | (simp <;> omega)))))
  clear hb1 
  have l1_0 : w.heap.size < w1.heap.size := by omega
  go_wp2_with fail
  refine (h2 _).mono ?_
  rintro e w2 ⟨rfl, hb2⟩
  have hz2 := hb2.size
  (try simp only [World.size_alloc, World.size_setCell, World.size_drew] at hz2)
  have f2_b0_0 := up0 hb2 (by omega) f1_b0_0
  have f2_b0_1 := up0 hb2 (by omega) f1_b0_1
  have hB2 : Below w.heap.size w w2 := (by (try show Below _ _ _); repeat (first | (with_reducible refine Below.setCell ?_ (by first | omega | (simp <;> omega)) _) | (with_reducible refine Below.alloc ?_ (by first | omega | (simp <;> omega)) _) | (with_reducible refine Below.drew ?_) | (with_reducible exact Below.refl _ _) | (with_reducible exact hB1) | (with_reducible refine below_call ?_ (by assumption) (by first | omega | (simp <;> omega))) | (with_reducible refine below_call ?_ (Drew.below (by assumption) _) (by first | omega | (simp <;> omega)))))
  clear hb2 hB1 f1_b0_0 f1_b0_1
  have l2_0 : w.heap.size < w2.heap.size := by omega
  clear l1_0
  go_wp2_with fail
  refine (hk _).mono ?_
  rintro e w3 ⟨rfl, hb3⟩
  have hz3 := hb3.size
  (try simp only [World.size_alloc, World.size_setCell, World.size_drew] at hz3)
  have f3_b0_0 := up0 hb3 (by omega) f2_b0_0
  have f3_b0_1 := up0 hb3 (by omega) f2_b0_1
  have hB3 : Below w.heap.size w w3 := (by (try show Below _ _ _); repeat (first | (with_reducible refine Below.setCell ?_ (by first | omega | (simp <;> omega)) _) | (with_reducible refine Below.alloc ?_ (by first | omega | (simp <;> omega)) _) | (with_reducible refine Below.drew ?_) | (with_reducible exact Below.refl _ _) | (with_reducible exact hB2) | (with_reducible refine below_call ?_ (by assumption) (by first | omega | (simp <;> omega))) | (with_reducible refine below_call ?_ (Drew.below (by assumption) _) (by first | omega | (simp <;> omega)))))
  clear hb3 hB2 f2_b0_0 f2_b0_1
  have l3_0 : w.heap.size < w3.heap.size := by omega
  clear l2_0
  go_wp2
  go_ret
  exact ⟨rfl, (by (try show Below _ _ _); repeat (first | (with_reducible refine Below.setCell ?_ (by first | omega | (simp <;> omega)) _) | (with_reducible refine Below.alloc ?_ (by first | omega | (simp <;> omega)) _) | (with_reducible refine Below.drew ?_) | (with_reducible exact Below.refl _ _) | (with_reducible exact hB3) | (with_reducible refine below_call ?_ (by assumption) (by first | omega | (simp <;> omega))) | (with_reducible refine below_call ?_ (Drew.below (by assumption) _) (by first | omega | (simp <;> omega)))))⟩

end Go.Proofs.Ytfohdafijfjefaa
