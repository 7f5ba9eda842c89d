/- spilelaw01.known. -/
import Derived.Test.YtfohdafijfjefaaShare1
import Derived.Test.YtfohdafijfjefaaWhere
import Derived.Test.YtfohdafijfjefaaSetsW
import Derived.Test.YtfohdafijfjefaaBoil
import Derived.Test.YtfohdafijfjefaaDraw
import Derived.Test.YtfohdafijfjefaaParts
import Derived.Test.YtfohdafijfjefaaSpan1
set_option linter.unusedSimpArgs false
set_option linter.unusedVariables false
namespace Go.Proofs.Ytfohdafijfjefaa
open Go.RowKit Go.Shelf

theorem known1_a : RE (scaleS ⟨7, 10⟩ 1 3) = .tuple #[.agg #[.int .i64 2, .int .i64 4], .int .i64 0] := by kernel_rfl
theorem known1_d : drawE ⟨970, 30⟩ 100 = (.agg #[.int .i64 97, .int .i64 3], .agg #[.int .i64 873, .int .i64 27], 0) := by kernel_rfl
theorem known1_w : boilS ⟨980, 20⟩ 6600 = (970, 0) := by kernel_rfl
theorem known1_t : whereS [⟨0, 0⟩, ⟨10, 30⟩, ⟨20, 10⟩] ⟨15, 24⟩ = ([⟨5, 8⟩, ⟨13, 17⟩], 0) := by kernel_rfl
theorem known1_s : withoutS [⟨0, 9⟩] [⟨3, 4⟩] = ([⟨0, 2⟩, ⟨5, 9⟩], 0) := by kernel_rfl
theorem known1_p : RE (makePartS (-4) (-6)) = .tuple #[.agg #[.int .i64 2, .int .i64 3], .int .i64 0] := by kernel_rfl

theorem ret2 {w w' : World} {e : Ending} {x y : R} (h : RetPost w ([x, y], 0) e w') : ∃ g c, e = .returned (.tuple #[.slice (some ⟨g, 0, none⟩) 2 c, .int .i64 0]) ∧ w.heap.size ≤ g ∧ g < w'.heap.size ∧ w'.cell? ⟨g, 2, none⟩ = some (.int .i64 y.lo) ∧ w'.cell? ⟨g, 3, none⟩ = some (.int .i64 y.hi) ∧ Below w.heap.size w w' := by
  obtain ⟨v, he, ho, _, hb⟩ := h
  obtain ⟨A, c, hv, _, _, hr⟩ := ho.reads
  obtain ⟨b, o, hA, hlo, hlb, hc⟩ := hr (by simp)
  obtain ⟨g, c', hv', hg1, hg2⟩ := ho.form (by simp)
  rw [hv] at hv'
  simp only [Value.slice.injEq] at hv'
  rw [hA] at hv'
  simp only [Option.some.injEq, Addr.mk.injEq] at hv'
  obtain ⟨⟨rfl, rfl, _⟩, _, rfl⟩ := hv'
  subst hA
  subst hv
  have h2 := hc 1 0 (by simp) (by omega)
  have h3 := hc 1 1 (by simp) (by omega)
  exact ⟨b, c, he, hg1, hg2, by simpa [R.cell] using h2, by simpa [R.cell] using h3, hb⟩

theorem rows3 (w : World) (t : TypeId) : Ranges (w.alloc (.cells #[.int .i64 0, .int .i64 0, .int .i64 10, .int .i64 30, .int .i64 20, .int .i64 10] t)) 0 (some ⟨w.heap.size, 0, none⟩) [⟨0, 0⟩, ⟨10, 30⟩, ⟨20, 10⟩] := by
  intro _
  refine ⟨w.heap.size, 0, rfl, Nat.zero_le _, by simp, fun j i hj hi => ?_⟩
  simp only [List.length_cons, List.length_nil] at hj
  have hj' : j = 0 ∨ j = 1 ∨ j = 2 := by omega
  have hi' : i = 0 ∨ i = 1 := by omega
  rcases hj' with rfl | rfl | rfl <;> rcases hi' with rfl | rfl <;> simp [go_sem, R.cell]

theorem rows1 (w : World) (t : TypeId) (x y : Int) (b : Nat) (hb : b = w.heap.size) : Ranges (w.alloc (.cells #[.int .i64 x, .int .i64 y] t)) 0 (some ⟨b, 0, none⟩) [⟨x, y⟩] := by
  subst hb
  intro _
  refine ⟨w.heap.size, 0, rfl, Nat.zero_le _, by simp, fun j i hj hi => ?_⟩
  simp only [List.length_cons, List.length_nil] at hj
  have hj' : j = 0 := by omega
  have hi' : i = 0 ∨ i = 1 := by omega
  rcases hj' with rfl; rcases hi' with rfl | rfl <;> simp [go_sem, R.cell]

theorem rows2 (w : World) (t t' : TypeId) (x y x' y' : Int) : Ranges ((w.alloc (.cells #[.int .i64 x, .int .i64 y] t)).alloc (.cells #[.int .i64 x', .int .i64 y'] t')) 0 (some ⟨w.heap.size, 0, none⟩) [⟨x, y⟩] :=
  (rows1 w t x y _ rfl).below (Below.alloc (Below.refl _ _) (Nat.le_refl _) _) (Nat.le_refl _)

theorem cell_lt {w : World} {b i : Nat} {v : Value} (h : w.cell? ⟨b, i, none⟩ = some v) : b < w.heap.size := by
  rcases Nat.lt_or_ge b w.heap.size with hl | hg
  · exact hl
  · exfalso
    unfold World.cell? at h
    simp [Array.getElem?_eq_none hg] at h

theorem up0 {w w' : World} {b i : Nat} {v : Value} (hb : Below w.heap.size w w') (hl : b < w.heap.size) (h : w.cell? ⟨b, i, none⟩ = some v) : w'.cell? ⟨b, i, none⟩ = some v := (hb.cell hl).trans h
theorem up1 {w w' : World} {o : Obj} {b i : Nat} {v : Value} (hb : Below (w.alloc o).heap.size (w.alloc o) w') (hl : b < w.heap.size) (h : w.cell? ⟨b, i, none⟩ = some v) : w'.cell? ⟨b, i, none⟩ = some v := by
  have h3 : b < (w.alloc o).heap.size := by simp; omega
  rw [hb.cell (p := ⟨b, i, none⟩) h3]
  simp [go_sem, h, hl]
theorem up2 {w w' : World} {o o' : Obj} {b i : Nat} {v : Value} (hb : Below ((w.alloc o).alloc o').heap.size ((w.alloc o).alloc o') w') (hl : b < w.heap.size) (h : w.cell? ⟨b, i, none⟩ = some v) : w'.cell? ⟨b, i, none⟩ = some v := by
  have h3 : b < ((w.alloc o).alloc o').heap.size := by simp; omega
  have h2 : b < w.heap.size + 1 := by omega
  rw [hb.cell (p := ⟨b, i, none⟩) h3]
  simp [go_sem, h, hl, h2]

set_option maxRecDepth 100000 in
set_option maxHeartbeats 2000000 in
theorem known1_any (w : World) :
    Calls Try.prog 22 #[] w fun e w' => e = .returned (.bool true) ∧ Below w.heap.size w w' := by
  have hA := fun (W : World) => scale_any 7 10 1 3 W
  rw [known1_a] at hA
  have hD := fun (W : World) => Draw_any 970 30 100 W
  rw [known1_d] at hD
  have hB := fun (W : World) => Boil_any 980 20 6600 W
  rw [known1_w] at hB
  simp only [IE] at hB
  have hP := fun (W : World) => MakePart_any (-4) (-6) W
  rw [known1_p] at hP
  have hT := fun (A : Option Addr) (W : World) h => Where_any 0 A 3 3 [⟨0, 0⟩, ⟨10, 30⟩, ⟨20, 10⟩] 15 24 W h rfl (by omega) three_le
  rw [known1_t] at hT
  have hS := fun (A1 A2 : Option Addr) (W : World) h1 h2 => Without_any 0 A1 1 1 [⟨0, 9⟩] A2 1 1 [⟨3, 4⟩] W h1 rfl one_le h2 rfl one_le
  rw [known1_s] at hS
  go_enter Try.func22, Try.ntmps22
  go_upto_region 8 with (first
    | (go_at_call 16; refine (hA _).mono ?_; rintro e w1 ⟨rfl, hb1⟩; have hz1 := hb1.size)
    | (go_at_call 33; refine (hD _).mono ?_; rintro e w2 ⟨rfl, hb2⟩; have hz2 := hb2.size)
    | (go_at_call 25; refine (hB _).mono ?_; rintro e w3 ⟨rfl, hb3⟩; have hz3 := hb3.size)
    | (go_at_call 62; refine Calls.mono (hT _ _ ?_) ?_; exact rows3 _ _; rintro e w4 hR; obtain ⟨gt, ct, rfl, ht1, ht2, tc2, tc3, hb4⟩ := ret2 hR; have hz4 := hb4.size)
    | (go_at_call 84; refine Calls.mono (hS _ _ _ ?_ ?_) ?_; exact rows2 _ _ _ _ _ _ _; exact rows1 _ _ _ _ _ (by simp); rintro e w5 hR; obtain ⟨gs, cs, rfl, hs1, hs2, sc2, sc3, hb5⟩ := ret2 hR; have hz5 := hb5.size)
    | (go_at_call 37; refine Calls.mono (Share_known _ _ ?_ ?_ ?_ ?_) ?_; simp; simp [go_sem]; simp [go_sem]; simp [go_sem]; rintro e w6 ⟨gl, rfl, lc0, hb6⟩; have hz6 := hb6.size)
    | (go_at_call 49; refine (hP _).mono ?_; rintro e w7 ⟨rfl, hb7⟩; have hz7 := hb7.size))
  simp at hz1 hz2 hz3 hz4 hz5 hz6 hz7 ht1 hs1
  have gl6 : gl < w6.heap.size := cell_lt lc0
  have a2 : w2.cell? ⟨w1.heap.size, 0, none⟩ = some (.int .i64 2) := (hb2.cell (by simp)).trans (by simp [go_sem])
  have a2' : w2.cell? ⟨w1.heap.size, 1, none⟩ = some (.int .i64 4) := (hb2.cell (by simp)).trans (by simp [go_sem])
  have a7 := up0 hb7 (by omega) (up1 hb6 (by omega) (up2 hb5 (by omega) (up1 hb4 (by omega) (up2 hb3 (by omega) a2))))
  have a7' := up0 hb7 (by omega) (up1 hb6 (by omega) (up2 hb5 (by omega) (up1 hb4 (by omega) (up2 hb3 (by omega) a2'))))
  have d3 : w3.cell? ⟨w2.heap.size, 0, none⟩ = some (.int .i64 97) := (hb3.cell (by simp; omega)).trans (by simp [go_sem])
  have d3' : w3.cell? ⟨w2.heap.size, 1, none⟩ = some (.int .i64 3) := (hb3.cell (by simp; omega)).trans (by simp [go_sem])
  have l3 : w3.cell? ⟨w2.heap.size + 1, 0, none⟩ = some (.int .i64 873) := (hb3.cell (by simp)).trans (by simp [go_sem])
  have l3' : w3.cell? ⟨w2.heap.size + 1, 1, none⟩ = some (.int .i64 27) := (hb3.cell (by simp)).trans (by simp [go_sem])
  have d7 := up0 hb7 (by omega) (up1 hb6 (by omega) (up2 hb5 (by omega) (up1 hb4 (by omega) d3)))
  have d7' := up0 hb7 (by omega) (up1 hb6 (by omega) (up2 hb5 (by omega) (up1 hb4 (by omega) d3')))
  have l7 := up0 hb7 (by omega) (up1 hb6 (by omega) (up2 hb5 (by omega) (up1 hb4 (by omega) l3)))
  have l7' := up0 hb7 (by omega) (up1 hb6 (by omega) (up2 hb5 (by omega) (up1 hb4 (by omega) l3')))
  have t7 := up0 hb7 (by omega) (up1 hb6 (by omega) (up2 hb5 (by omega) tc2))
  have t7' := up0 hb7 (by omega) (up1 hb6 (by omega) (up2 hb5 (by omega) tc3))
  have s7 := up0 hb7 (by omega) (up1 hb6 (by omega) sc2)
  have s7' := up0 hb7 (by omega) (up1 hb6 (by omega) sc3)
  have c7 := up0 hb7 (by omega) lc0
  have n1 : w1.heap.size < w7.heap.size := by omega
  have n2 : w2.heap.size < w7.heap.size := by omega
  have n3 : w2.heap.size + 1 < w7.heap.size := by omega
  have n4 : gt < w7.heap.size := by omega
  have n5 : gs < w7.heap.size := by omega
  have n6 : gl < w7.heap.size := by omega
  have hbe : Below w.heap.size w w7 := (((((hb1.trans ((Below.alloc (Below.refl _ _) (by first | omega | (simp <;> omega)) _).trans (hb2.mono (by first | omega | (simp <;> omega))))).trans ((Below.alloc (Below.alloc (Below.refl _ _) (by first | omega | (simp <;> omega)) _) (by first | omega | (simp <;> omega)) _).trans (hb3.mono (by first | omega | (simp <;> omega))))).trans ((Below.alloc (Below.refl _ _) (by first | omega | (simp <;> omega)) _).trans (hb4.mono (by first | omega | (simp <;> omega))))).trans ((Below.alloc (Below.alloc (Below.refl _ _) (by first | omega | (simp <;> omega)) _) (by first | omega | (simp <;> omega)) _).trans (hb5.mono (by first | omega | (simp <;> omega))))).trans ((Below.alloc (Below.refl _ _) (by first | omega | (simp <;> omega)) _).trans (hb6.mono (by first | omega | (simp <;> omega))))).trans (hb7.mono (by first | omega | (simp <;> omega)))
  clear hb1 hb2 hb3 hb4 hb5 hb6 hb7 tc2 tc3 sc2 sc3 lc0 a2 a2' d3 d3' l3 l3'
  clear hA hB hD hP hT hS
  go_wp2
  go_ret
  exact ⟨rfl, (by (try show Below _ _ _); repeat (first | (with_reducible refine Below.setCell ?_ (by first | omega | (simp <;> omega)) _) | (with_reducible refine Below.alloc ?_ (by first | omega | (simp <;> omega)) _) | (with_reducible refine Below.drew ?_) | (with_reducible exact Below.refl _ _) | (with_reducible exact hbe) | (with_reducible refine below_call ?_ (by assumption) (by first | omega | (simp <;> omega))) | (with_reducible refine below_call ?_ (Drew.below (by assumption) _) (by first | omega | (simp <;> omega)))))⟩

end Go.Proofs.Ytfohdafijfjefaa
