/- SpanRows returns true at every input, and leaves the input as it was. No condition. -/
import Derived.Test.YtfohdafijfjefaaKnown1
import Derived.Test.YtfohdafijfjefaaRowsFns
import Derived.Test.YtfohdafijfjefaaRefSums
import Derived.Deep.RegionHeld3
import Derived.Deep.AppendLies
import Derived.Test.YtfohdafijfjefaaRowsA
import Derived.Test.YtfohdafijfjefaaFlat

section
set_option linter.unusedSimpArgs false
set_option linter.unusedVariables false
namespace Go.Proofs.Ytfohdafijfjefaa
open Go.RowKit Go.Shelf

set_option maxRecDepth 100000
set_option maxHeartbeats 4000000
theorem rows_few (A : Option Addr) (n c : Nat) (ss : List R) (p0 p1 y0 y1 : Int) (w : World) (hl : StepList w A n c ss) (h : n < 2) :
    Calls Try.prog 9 #[.slice A n c, .agg #[.int .u16 p0, .int .u16 p1], .agg #[.int .i16 y0, .int .i16 y1]] w fun e w' => e = .returned (.bool true) ∧ Below w.heap.size w w' := by
  obtain ⟨hlen, hle, hmax, hnone, hx, hsb⟩ := hl
  have hk := fun W => known1_any W
  have hz : (n : Int) < 2 := by omega
  unfold maxLen at hmax
  clear hlen hx hsb
  go_enter Try.func9, Try.ntmps9
  go_wp2_with fail
  refine (hk _).mono ?_
  rintro e w1 ⟨rfl, hb1⟩
  have hz1 := hb1.size
  (try simp only [World.size_alloc, World.size_setCell, World.size_drew] at hz1)
  have f1_b0_0 : w1.cell? ⟨w.heap.size, 0, none⟩ = some (.int .u16 p0) := (hb1.cell (p := ⟨w.heap.size, 0, none⟩) (by show w.heap.size < _; first | omega | (simp only [World.size_alloc, World.size_setCell, World.size_drew]; omega))).trans (by simp [go_sem, cell_set])
  have f1_b0_1 : w1.cell? ⟨w.heap.size, 1, none⟩ = some (.int .u16 p1) := (hb1.cell (p := ⟨w.heap.size, 1, none⟩) (by show w.heap.size < _; first | omega | (simp only [World.size_alloc, World.size_setCell, World.size_drew]; omega))).trans (by simp [go_sem, cell_set])
  have f1_b1_0 : w1.cell? ⟨w.heap.size + 1, 0, none⟩ = some (.int .i16 y0) := (hb1.cell (p := ⟨w.heap.size + 1, 0, none⟩) (by show w.heap.size + 1 < _; first | omega | (simp only [World.size_alloc, World.size_setCell, World.size_drew]; omega))).trans (by simp [go_sem, cell_set])
  have f1_b1_1 : w1.cell? ⟨w.heap.size + 1, 1, none⟩ = some (.int .i16 y1) := (hb1.cell (p := ⟨w.heap.size + 1, 1, none⟩) (by show w.heap.size + 1 < _; first | omega | (simp only [World.size_alloc, World.size_setCell, World.size_drew]; omega))).trans (by simp [go_sem, cell_set])
  have hB1 : Below w.heap.size w w1 := ub2 (Below.refl _ _) hb1
  clear hb1 
  have l1_0 : w.heap.size < w1.heap.size := by omega
  have l1_1 : w.heap.size + 1 < w1.heap.size := by omega
  go_wp2
  go_ret
  exact ⟨rfl, hB1⟩

set_option maxRecDepth 100000
set_option maxHeartbeats 4000000
theorem rows_many (A : Option Addr) (n c : Nat) (ss : List R) (p0 p1 y0 y1 : Int) (w : World) (hl : StepList w A n c ss) (h : 12 < n) :
    Calls Try.prog 9 #[.slice A n c, .agg #[.int .u16 p0, .int .u16 p1], .agg #[.int .i16 y0, .int .i16 y1]] w fun e w' => e = .returned (.bool true) ∧ Below w.heap.size w w' := by
  obtain ⟨hlen, hle, hmax, hnone, hx, hsb⟩ := hl
  have hk := fun W => known1_any W
  have hz0 : ¬ (n : Int) < 2 := by omega
  have hz : (12 : Int) < (n : Int) := by omega
  unfold maxLen at hmax
  clear hlen hx hsb
  go_enter Try.func9, Try.ntmps9
  go_wp2_with fail
  refine (hk _).mono ?_
  rintro e w1 ⟨rfl, hb1⟩
  have hz1 := hb1.size
  (try simp only [World.size_alloc, World.size_setCell, World.size_drew] at hz1)
  have f1_b0_0 : w1.cell? ⟨w.heap.size, 0, none⟩ = some (.int .u16 p0) := (hb1.cell (p := ⟨w.heap.size, 0, none⟩) (by show w.heap.size < _; first | omega | (simp only [World.size_alloc, World.size_setCell, World.size_drew]; omega))).trans (by simp [go_sem, cell_set])
  have f1_b0_1 : w1.cell? ⟨w.heap.size, 1, none⟩ = some (.int .u16 p1) := (hb1.cell (p := ⟨w.heap.size, 1, none⟩) (by show w.heap.size < _; first | omega | (simp only [World.size_alloc, World.size_setCell, World.size_drew]; omega))).trans (by simp [go_sem, cell_set])
  have f1_b1_0 : w1.cell? ⟨w.heap.size + 1, 0, none⟩ = some (.int .i16 y0) := (hb1.cell (p := ⟨w.heap.size + 1, 0, none⟩) (by show w.heap.size + 1 < _; first | omega | (simp only [World.size_alloc, World.size_setCell, World.size_drew]; omega))).trans (by simp [go_sem, cell_set])
  have f1_b1_1 : w1.cell? ⟨w.heap.size + 1, 1, none⟩ = some (.int .i16 y1) := (hb1.cell (p := ⟨w.heap.size + 1, 1, none⟩) (by show w.heap.size + 1 < _; first | omega | (simp only [World.size_alloc, World.size_setCell, World.size_drew]; omega))).trans (by simp [go_sem, cell_set])
  have hB1 : Below w.heap.size w w1 := ub2 (Below.refl _ _) hb1
  clear hb1 
  have l1_0 : w.heap.size < w1.heap.size := by omega
  have l1_1 : w.heap.size + 1 < w1.heap.size := by omega
  go_wp2
  go_ret
  exact ⟨rfl, hB1⟩

end Go.Proofs.Ytfohdafijfjefaa

end

section
set_option linter.unusedSimpArgs false
set_option linter.unusedVariables false
namespace Go.Proofs.Ytfohdafijfjefaa
open Go.RowKit Go.Shelf

theorem rowsF_lo (ss : List R) (k : Nat) (hk : k ≤ ss.length) : 0 ≤ (rowsF (ss.take k)).1 ∧ ∀ i, i < k → 0 ≤ ((rowsF (ss.take k)).2[i]?.getD R.d).lo := by
  induction k with
  | zero => simp [rowsF]
  | succ k ih =>
    obtain ⟨h1, h2⟩ := ih (by omega)
    have hl := rowsF_len ss k (by omega)
    rw [rowsF_snoc ss k (by omega)]
    generalize ss[k]?.getD R.d = s
    generalize rowsF (ss.take k) = st at *
    obtain ⟨x, t⟩ := st
    unfold rowsStep
    simp only at *
    refine ⟨by omega, fun i hi => ?_⟩
    rcases Nat.lt_or_ge i k with c | c
    · rw [List.getElem?_append_left (by omega)]; exact h2 i c
    · obtain rfl : i = k := by omega
      rw [List.getElem?_append_right (by omega), hl]
      simp
      omega

theorem rows_walk (A : Option Addr) (n c : Nat) (ss : List R) (p0 p1 y0 y1 : Int) (w : World) (hl : StepList w A n c ss) (hp0 : 0 ≤ p0 ∧ p0 ≤ 65535) (hp1 : 0 ≤ p1 ∧ p1 ≤ 65535) (hy0 : -32768 ≤ y0 ∧ y0 ≤ 32767) (hy1 : -32768 ≤ y1 ∧ y1 ≤ 32767) :
    Calls Try.prog 9 #[.slice A n c, .agg #[.int .u16 p0, .int .u16 p1], .agg #[.int .i16 y0, .int .i16 y1]] w fun e w' => e = .returned (.bool true) ∧ Below w.heap.size w w' := by
  by_cases h2 : n < 2
  · exact rows_few A n c ss p0 p1 y0 y1 w hl h2
  by_cases h12 : 12 < n
  · exact rows_many A n c ss p0 p1 y0 y1 w hl h12
  have hlen := hl.len
  have hs : ∀ s ∈ ss, -32768 ≤ s.hi ∧ s.hi ≤ 32767 := fun s h => (hl.bd s h).2
  obtain ⟨hok, htl⟩ := rows_table ss hs (by omega) (by omega)
  have h := rowsF_ok ss hs ss.length (Nat.le_refl _) (by omega)
  have hlo := rowsF_lo ss ss.length (Nat.le_refl _)
  rw [List.take_length] at h hlo
  obtain ⟨i1, ⟨i2, i3⟩, i4, i5, i6⟩ := h
  have hbd : ∀ i, i < (rowsF ss).2.length → (0 ≤ ((rowsF ss).2[i]?.getD R.d).lo ∧ ((rowsF ss).2[i]?.getD R.d).lo ≤ 1000000) ∧ -32768 ≤ ((rowsF ss).2[i]?.getD R.d).hi ∧ ((rowsF ss).2[i]?.getD R.d).hi ≤ 32767 := by
    intro i hi
    have e1 := hlo.2 i (by omega)
    have e2 := i6 i (by omega)
    have e3 := hs (ss[i]?.getD R.d) (by rw [List.getElem?_eq_getElem (by omega)]; exact List.getElem_mem _)
    have e4 := i5 (by omega)
    have e5 : ((rowsF ss).2[i]?.getD R.d).lo ≤ ((rowsF ss).2[ss.length - 1]?.getD R.d).lo := by
      rcases Nat.lt_or_ge i (ss.length - 1) with c | c
      · exact Int.le_of_lt (rows_mono (by rw [i1]; exact i4) i (ss.length - 1) c (by omega))
      · rw [show i = ss.length - 1 by omega]; exact Int.le_refl _
    omega
  have hfl : firstX (rowsF ss).2 ≤ lastX (rowsF ss).2 := Int.le_of_lt (rows_mono ((tableS_iff _).1 hok).1 0 _ (by omega) (by omega))
  obtain ⟨a1, a2⟩ := pick_btw (firstX (rowsF ss).2) (lastX (rowsF ss).2) p0 hfl hp0.1
  obtain ⟨b1, b2⟩ := pick_btw (firstX (rowsF ss).2 + p0 % (lastX (rowsF ss).2 - firstX (rowsF ss).2 + 1)) (lastX (rowsF ss).2) p1 a2 hp1.1
  exact rows_main A n c ss p0 p1 y0 y1 w hl hp0 hp1 (by omega) (by omega) (rowsF ss).2 rfl _ _ ⟨hok, by omega, hbd, a1, b1, b2⟩ rfl rfl (min y0 y1) (max y0 y1) rfl rfl (by omega) _ _ _ _ _ _ rfl rfl rfl _ _ rfl rfl

end Go.Proofs.Ytfohdafijfjefaa

end

section
set_option linter.unusedSimpArgs false
set_option linter.unusedVariables false
namespace Go.Proofs.Ytfohdafijfjefaa
open Go.Deep Go.ChangeShapes Go.WideShapes Go.ChangeAt Go.RowKit Go.Shelf

set_option maxRecDepth 100000 in
theorem spanRows_lifted (os : Os) (started : os.Started) (H : Type) (enc : TypeId × Value → H) :
    ReturnsInHanded {} Try.checked os 9 .any (Rows.spanRowsSpec.pre6 enc Try.prog Try.f9 Rows.spanRowsRow.domain false) (Rows.spanRowsSpec.post enc Try.prog Try.f9 false true false false) := by
  refine returnsInHanded_of_change (C := Try.checked) ownKnob_none started (by kernel_rfl) Try.func9
    (ChangeSpec.witness6 (enc := enc) (C := Try.checked) false ⟨#[], #[.slice none 0 0, .agg #[.int .u16 0, .int .u16 0], .agg #[.int .i16 0, .int .i16 0]], []⟩ 8 (by kernel_rfl) (by kernel_rfl) (by kernel_rfl) (by kernel_rfl)) ?_
  intro W base args ds gs before hval0 hW hcnd _
  have hval : ∀ (j : Nat) t v, Try.f9.params[j]? = some t → args[j]? = some v → Value.okWide Try.prog W .any base t v := hval0
  have hW' := hW
  obtain ⟨p, q, hA0, hV, rfl, hfz, hnd⟩ := hW
  have hA : DataW.TrodAll enc Try.prog W 0 (fun _ => true) true Try.f9.params.toList args.toList ds p := hA0
  rw [Try.params9] at hA hval
  have hkeep := hA
  obtain ⟨v0, v1, v2, d0, d1, d2, p0, p1, p2, rfl, rfl, rfl, h0, h1, h2⟩ := trodAll_three hA
  obtain ⟨rfl, rfl⟩ := trodVars_none hV
  obtain ⟨A0, m0, c0, xs0, rfl, hl0⟩ := open_steps Try.underlying75 (by kernel_rfl) (by kernel_rfl) (hval 0 75 v0 rfl rfl) h0
  obtain ⟨n1_0, n1_1, rfl, f1_0, f1_1⟩ := open_flat2 .u16 .u16 (by kernel_rfl) (by kernel_rfl) (by kernel_rfl) (hval 1 76 v1 rfl rfl) h1
  obtain ⟨n2_0, n2_1, rfl, f2_0, f2_1⟩ := open_flat2 .i16 .i16 (by kernel_rfl) (by kernel_rfl) (by kernel_rfl) (hval 2 78 v2 rfl rfl) h2
  clear hA0 hval0
  simp only [List.append_nil] at hW'
  have hlt : ∀ x ∈ p0 ++ p1 ++ p2, x.block < W.heap.size := fun x hx => hW'.lt x (by simpa using hx)
  refine (rows_walk A0 m0 c0 xs0 n1_0 n1_1 n2_0 n2_1 W hl0 (wf_u16 f1_0) (wf_u16 f1_1) (wf_i16 f2_0) (wf_i16 f2_1)).mono fun e W' ⟨he, hb⟩ => ?_
  subst he
  exact ⟨_, rfl, post_of_below (pa := _) (pv := []) hW' (fun _ _ _ => trodAll_mk1 (shut_bool Try.underlying4 _))
    (fun sp hsp => args_stay hb _ _ _ _ (of_decide_eq_true (by kernel_rfl)) (fun x hx => hlt x (by simpa using hx)) hkeep sp (fun x hx => hsp x (by simpa using hx)))
    (fun _ _ => rfl) (by simp) hb (ok_one (by kernel_rfl) rfl (okWide_bool_mk Try.underlying4 _))⟩

theorem spanRows_proved : Rows.SpanRowsSaid :=
  OpenClaim.holds_of_wide 9 Try.f9 rfl rfl rfl rfl rfl rfl rfl ⟨rfl, rfl, rfl, rfl, rfl⟩ rfl rfl rfl rfl rfl (by kernel_rfl) Try.func9 (by kernel_rfl)
    (of_decide_eq_true (by kernel_rfl)) (by unfold Func.isWrapper; first | (rw [if_pos (by decide +kernel)]; kernel_rfl) | (rw [if_neg (by decide +kernel)]; exact ⟨rfl, rfl⟩))
    (fun os started H enc _ => spanRows_lifted os started H enc)

#print axioms spanRows_proved
end Go.Proofs.Ytfohdafijfjefaa

end
