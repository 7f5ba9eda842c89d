/- Contracts: the reference's Hour, the whole. -/
import Derived.Test.YtlkecgjpmnganaaThTab4
set_option linter.unusedSimpArgs false
set_option linter.unusedVariables false
namespace Go.Proofs.Ytlkecgjpmnganaa
open Go.RowKit Go.Shelf

set_option maxRecDepth 100000 in
set_option maxHeartbeats 1000000 in
theorem refHour_any (r : TR) (hr : TROk r) (F : Fl) (C : Cs) (tl th seen : Int) (w : World) (hF : Rep F C) (hin : CIn r C) (hbd : ∀ s n, C s n → 0 ≤ n ∧ n ≤ 90000) (hle : tl ≤ th) (h1 : -600 ≤ tl) (h2 : th ≤ 600) :
    Calls Try.prog 73 #[rV r, tabV F, .agg #[.int .i64 tl, .int .i64 th], .int .i64 seen] w (RHourPost w (hourC r tl th (mayS seen) C)) := by
  unfold tabV
  obtain ⟨T, hT⟩ : ∃ T, rawF F = T := ⟨_, rfl⟩
  have r0 : Aside (∀ s, pk (T s) 0 = loR (F s)) := fun s => by rw [← hT]; exact rawF_0 F s
  have r1 : Aside (∀ s, pk (T s) 1 = hiR (F s)) := fun s => by rw [← hT]; exact rawF_1 F s
  have hrv : rV r = .agg #[.int .i64 r.frost, .int .i64 r.thaw, .int .i64 r.gain, .int .i64 r.full, .int .i64 r.ice, .int .i64 r.most, .int .i64 r.melt, .int .i64 r.rlow, .int .i64 r.rhigh, .int .i64 r.pull] := rfl
  rw [hT, hrv]
  clear hT
  go_enter Try.func73, Try.ntmps73
  refine wp_tail 3 (R := hourTail3) (show hourTail3 = dropC 3 (bodyC Try.f73) from rfl) ?_
  conv => arg 2; simp only [bodyC, Try.f73, Option.getD_some, dropC, mkC]
  have hz := store_zero_under
  go_upto_block 0 with fail
  clear hz
  obtain ⟨A0, hA0⟩ : ∃ A, A = w.alloc (.cells #[.int .i64 r.frost, .int .i64 r.thaw, .int .i64 r.gain, .int .i64 r.full, .int .i64 r.ice, .int .i64 r.most, .int .i64 r.melt, .int .i64 r.rlow, .int .i64 r.rhigh, .int .i64 r.pull] 25) := ⟨_, rfl⟩
  have hs0 : A0.heap.size = w.heap.size + 1 := by rw [hA0]; simp
  have hb0 : Below w.heap.size w A0 := by rw [hA0]; exact (Below.refl _ _).alloc (Nat.le_refl _) _
  have q0 : A0.cell? ⟨w.heap.size, 0, none⟩ = some (.int .i64 r.frost) := by rw [hA0]; simp [go_sem]
  have q1 : A0.cell? ⟨w.heap.size, 1, none⟩ = some (.int .i64 r.thaw) := by rw [hA0]; simp [go_sem]
  have q2 : A0.cell? ⟨w.heap.size, 2, none⟩ = some (.int .i64 r.gain) := by rw [hA0]; simp [go_sem]
  have q3 : A0.cell? ⟨w.heap.size, 3, none⟩ = some (.int .i64 r.full) := by rw [hA0]; simp [go_sem]
  have q4 : A0.cell? ⟨w.heap.size, 4, none⟩ = some (.int .i64 r.ice) := by rw [hA0]; simp [go_sem]
  have q5 : A0.cell? ⟨w.heap.size, 5, none⟩ = some (.int .i64 r.most) := by rw [hA0]; simp [go_sem]
  have q6 : A0.cell? ⟨w.heap.size, 6, none⟩ = some (.int .i64 r.melt) := by rw [hA0]; simp [go_sem]
  have q7 : A0.cell? ⟨w.heap.size, 7, none⟩ = some (.int .i64 r.rlow) := by rw [hA0]; simp [go_sem]
  have q8 : A0.cell? ⟨w.heap.size, 8, none⟩ = some (.int .i64 r.rhigh) := by rw [hA0]; simp [go_sem]
  have q9 : A0.cell? ⟨w.heap.size, 9, none⟩ = some (.int .i64 r.pull) := by rw [hA0]; simp [go_sem]
  rw [← hA0]
  clear hA0
  obtain ⟨A1, hA1⟩ : ∃ A, A = A0.alloc (.cells (tabA T) 63) := ⟨_, rfl⟩
  have hs1 : A1.heap.size = w.heap.size + 1 + 1 := by rw [hA1]; simp; omega
  have hb1 : Below A0.heap.size A0 A1 := by rw [hA1]; exact (Below.refl _ _).alloc (Nat.le_refl _) _
  have hT1 : Tab A1 (w.heap.size + 1) T := by rw [hA1, ← hs0]; exact Tab.new _ _ _ _
  rw [← hA1]
  clear hA1
  obtain ⟨A2, hA2⟩ : ∃ A, A = A1.alloc (.cells #[.int .i64 tl, .int .i64 th] 23) := ⟨_, rfl⟩
  have hs2 : A2.heap.size = w.heap.size + 1 + 1 + 1 := by rw [hA2]; simp; omega
  have hb2 : Below A1.heap.size A1 A2 := by rw [hA2]; exact (Below.refl _ _).alloc (Nat.le_refl _) _
  have t0 : A2.cell? ⟨w.heap.size + 1 + 1, 0, none⟩ = some (.int .i64 tl) := by rw [hA2, ← hs1]; simp [go_sem]
  have t1 : A2.cell? ⟨w.heap.size + 1 + 1, 1, none⟩ = some (.int .i64 th) := by rw [hA2, ← hs1]; simp [go_sem]
  rw [← hA2]
  clear hA2
  obtain ⟨A3, hA3⟩ : ∃ A, A = A2.alloc (.cells Try.zeroCells63 63) := ⟨_, rfl⟩
  have hs3 : A3.heap.size = w.heap.size + 1 + 1 + 1 + 1 := by rw [hA3]; simp; omega
  have hb3 : Below A2.heap.size A2 A3 := by rw [hA3]; exact (Below.refl _ _).alloc (Nat.le_refl _) _
  have hT3 : Tab A3 (w.heap.size + 1 + 1 + 1) (fun _ => (0, 0)) := by rw [hA3]; exact Tab.zero _ _ (by omega) _
  have hW3 : Wri A3 (w.heap.size + 1 + 1 + 1) := by rw [hA3, ← hs2]; exact Wri.new _ _ _
  rw [← hA3]
  clear hA3
  obtain ⟨A4, hA4⟩ : ∃ A, A = A3.alloc (.cells Try.zeroCells63 63) := ⟨_, rfl⟩
  have hs4 : A4.heap.size = w.heap.size + 1 + 1 + 1 + 1 + 1 := by rw [hA4]; simp; omega
  have hb4 : Below A3.heap.size A3 A4 := by rw [hA4]; exact (Below.refl _ _).alloc (Nat.le_refl _) _
  have hT4 : Tab A4 (w.heap.size + 1 + 1 + 1 + 1) (fun _ => (0, 0)) := by rw [hA4]; exact Tab.zero _ _ (by omega) _
  have hW4 : Wri A4 (w.heap.size + 1 + 1 + 1 + 1) := by rw [hA4, ← hs3]; exact Wri.new _ _ _
  rw [← hA4]
  clear hA4
  obtain ⟨A5, hA5⟩ : ∃ A, A = A4.alloc (.cells #[.bool false, .bool false, .bool false, .bool false] 139) := ⟨_, rfl⟩
  have hs5 : A5.heap.size = w.heap.size + 1 + 1 + 1 + 1 + 1 + 1 := by rw [hA5]; simp; omega
  have hb5 : Below A4.heap.size A4 A5 := by rw [hA5]; exact (Below.refl _ _).alloc (Nat.le_refl _) _
  have d0 : A5.cell? ⟨w.heap.size + 1 + 1 + 1 + 1 + 1, 0, none⟩ = some (.bool false) := by rw [hA5, ← hs4]; simp [go_sem]
  have d1 : A5.cell? ⟨w.heap.size + 1 + 1 + 1 + 1 + 1, 1, none⟩ = some (.bool false) := by rw [hA5, ← hs4]; simp [go_sem]
  have d2 : A5.cell? ⟨w.heap.size + 1 + 1 + 1 + 1 + 1, 2, none⟩ = some (.bool false) := by rw [hA5, ← hs4]; simp [go_sem]
  have d3 : A5.cell? ⟨w.heap.size + 1 + 1 + 1 + 1 + 1, 3, none⟩ = some (.bool false) := by rw [hA5, ← hs4]; simp [go_sem]
  have g0 : A5.frozen? ⟨w.heap.size + 1 + 1 + 1 + 1 + 1, 0, none⟩ = false := by rw [hA5, ← hs4]; simp [go_sem]
  have g1 : A5.frozen? ⟨w.heap.size + 1 + 1 + 1 + 1 + 1, 1, none⟩ = false := by rw [hA5, ← hs4]; simp [go_sem]
  have g2 : A5.frozen? ⟨w.heap.size + 1 + 1 + 1 + 1 + 1, 2, none⟩ = false := by rw [hA5, ← hs4]; simp [go_sem]
  have g3 : A5.frozen? ⟨w.heap.size + 1 + 1 + 1 + 1 + 1, 3, none⟩ = false := by rw [hA5, ← hs4]; simp [go_sem]
  rw [← hA5]
  clear hA5
  have c4 : Below A4.heap.size A4 A5 := hb5
  have c3 : Below A3.heap.size A3 A5 := hb4.trans (c4.mono hb4.size)
  have c2 : Below A2.heap.size A2 A5 := hb3.trans (c3.mono hb3.size)
  have c1 : Below A1.heap.size A1 A5 := hb2.trans (c2.mono hb2.size)
  have c0 : Below A0.heap.size A0 A5 := hb1.trans (c1.mono hb1.size)
  have hBW : Below w.heap.size w A5 := hb0.trans (c0.mono hb0.size)
  replace hT1 := hT1.below c1 (by omega)
  replace hT3 := hT3.below c3 (by omega)
  replace hW3 := hW3.below c3 (by omega)
  replace hT4 := hT4.below c4 (by omega)
  replace hW4 := hW4.below c4 (by omega)
  replace q0 := (c0.cell (p := ⟨w.heap.size, 0, none⟩) (by show w.heap.size < _; omega)).trans q0
  replace q1 := (c0.cell (p := ⟨w.heap.size, 1, none⟩) (by show w.heap.size < _; omega)).trans q1
  replace q2 := (c0.cell (p := ⟨w.heap.size, 2, none⟩) (by show w.heap.size < _; omega)).trans q2
  replace q3 := (c0.cell (p := ⟨w.heap.size, 3, none⟩) (by show w.heap.size < _; omega)).trans q3
  replace q4 := (c0.cell (p := ⟨w.heap.size, 4, none⟩) (by show w.heap.size < _; omega)).trans q4
  replace q5 := (c0.cell (p := ⟨w.heap.size, 5, none⟩) (by show w.heap.size < _; omega)).trans q5
  replace q6 := (c0.cell (p := ⟨w.heap.size, 6, none⟩) (by show w.heap.size < _; omega)).trans q6
  replace q7 := (c0.cell (p := ⟨w.heap.size, 7, none⟩) (by show w.heap.size < _; omega)).trans q7
  replace q8 := (c0.cell (p := ⟨w.heap.size, 8, none⟩) (by show w.heap.size < _; omega)).trans q8
  replace q9 := (c0.cell (p := ⟨w.heap.size, 9, none⟩) (by show w.heap.size < _; omega)).trans q9
  replace t0 := (c2.cell (p := ⟨w.heap.size + 1 + 1, 0, none⟩) (by show w.heap.size + 1 + 1 < _; omega)).trans t0
  replace t1 := (c2.cell (p := ⟨w.heap.size + 1 + 1, 1, none⟩) (by show w.heap.size + 1 + 1 < _; omega)).trans t1
  clear c0 c1 c2 c3 c4 hb0 hb1 hb2 hb3 hb4 hb5 hs0 hs1 hs2 hs3 hs4
  have hok : okT ⟨tl, th⟩ = true := by simp [okT, btw]; omega
  have hcan := fun k hk W => refCan_any r hr tl th k hok hk W
  rw [hrv] at hcan
  obtain ⟨b5, hb5⟩ : ∃ b5, b5 = w.heap.size + 1 + 1 + 1 + 1 + 1 := ⟨_, rfl⟩
  rw [← hb5] at d0 d1 d2 d3 g0 g1 g2 g3 ⊢
  have o5 : b5 < A5.heap.size := by omega
  have o4 : w.heap.size + 1 + 1 + 1 + 1 < b5 := by omega
  have o6 : w.heap.size < b5 := by omega
  have o7 : w.heap.size + 1 + 1 < b5 := by omega
  have hneb5 : ∀ j, j < 5 → w.heap.size + j ≠ b5 := fun j hj => by omega
  have HH := Lib.hid hF
  clear hb5 hs5 hF
  go_wp2_with fail
  go_loopg [11] (4) (fun gg c wr => ∃ k : Nat, 1 ≤ k ∧ k ≤ 4 ∧ 4 - k ≤ gg ∧ c = .int .i64 k ∧ Aside (A5.grownBy wr (some b5)) ∧ Aside (∀ j : Nat, j < 4 → wr.frozen? ⟨b5, j, none⟩ = false ∧ wr.cell? ⟨b5, j, none⟩ = some (.bool (decide (1 ≤ j) && decide (j < k) && canT r tl th j))))
  case atStart =>
    refine ⟨1, by omega, by omega, by omega, rfl, grown_refl _ _, fun j hj => ?_⟩
    have : j = 0 ∨ j = 1 ∨ j = 2 ∨ j = 3 := by omega
    rcases this with rfl | rfl | rfl | rfl
    · exact ⟨g0, d0⟩
    · exact ⟨g1, d1⟩
    · exact ⟨g2, d2⟩
    · exact ⟨g3, d3⟩
  case round =>
    obtain ⟨k, hk1, hk4, hg, rfl, hgw, hcs⟩ := hrel
    clear d0 d1 d2 d3 g0 g1 g2 g3
    have hgz := hgw.out.size
    by_cases hlt : k ≤ 3
    · have hltz : (k : Int) ≤ 3 := by omega
      have hk0 : (0 : Int) ≤ (k : Int) := Int.natCast_nonneg _
      have hk6 : (k : Int) < 4 := by omega
      have a0 := gcell hgw.out q0 (by omega)
      have a1 := gcell hgw.out q1 (by omega)
      have a2 := gcell hgw.out q2 (by omega)
      have a3 := gcell hgw.out q3 (by omega)
      have a4 := gcell hgw.out q4 (by omega)
      have a5 := gcell hgw.out q5 (by omega)
      have a6 := gcell hgw.out q6 (by omega)
      have a7 := gcell hgw.out q7 (by omega)
      have a8 := gcell hgw.out q8 (by omega)
      have a9 := gcell hgw.out q9 (by omega)
      have e0 := gcell hgw.out t0 (by omega)
      have e1 := gcell hgw.out t1 (by omega)
      have hc1 := hcan k (by omega)
      obtain ⟨cv, hcv⟩ : ∃ cv, canT r tl th (k : Int) = cv := ⟨_, rfl⟩
      rw [hcv] at hc1
      have Hcv := Lib.hid hcv
      clear hcv
      obtain ⟨Wa, hWa⟩ : ∃ Wa, Wa = wr := ⟨_, rfl⟩
      subst hWa
      go_wp2_with fail
      refine (hc1 _).mono ?_
      rintro e w3 ⟨rfl, hb3⟩
      have hz3 := hb3.size
      have l0 := (hb3.cell (p := ⟨b5, k, none⟩) (by show b5 < _; omega)).trans (hcs.out k (by omega)).2
      have v0 := (hb3.frozen (p := ⟨b5, k, none⟩) (by show b5 < _; omega)).trans (hcs.out k (by omega)).1
      go_wp2
      go_roundg (4 - (k + 1))
      case measure => omega
      case rel =>
        refine ⟨k + 1, by omega, by omega, by omega, by go_num, ?_, fun j hj => ?_⟩
        · exact grown_tr (grown_below hgw.out (hb3.mono hgz)) (grown_set _ _ _ _) (fun r e => Or.inr (by cases e; rfl))
        · constructor
          · exact (World.frozen?_setCells b5 [.bool cv] _ _ _).trans ((hb3.frozen (p := ⟨b5, j, none⟩) (by show b5 < _; omega)).trans (hcs.out j hj).1)
          · rw [cell_set]
            by_cases e : k = j
            · subst e
              rw [if_pos ⟨rfl, rfl⟩, l0, Hcv.out]
              simp [hk1]
            · rw [if_neg (fun h => e h.2)]
              refine ((hb3.cell (p := ⟨b5, j, none⟩) (by show b5 < _; omega)).trans (hcs.out j hj).2).trans ?_
              have : decide (j < k) = decide (j < k + 1) := by rw [decide_eq_decide]; omega
              rw [this]
    · have hltz : ¬ (k : Int) ≤ 3 := by omega
      obtain rfl : k = 4 := by omega
      go_wp2_with fail
      refine hour_t3 r hr F C tl th seen w HH.out hin hbd T r0 r1 wr (hBW.grown hgw.out hBW.size (fun k e => by cases e; omega)) w.heap.size (w.heap.size + 1) (w.heap.size + 1 + 1 + 1) (w.heap.size + 1 + 1 + 1 + 1) b5 (Nat.le_refl _) (by omega) (by omega) (by omega) o4 (by omega) ?_ ?_ ?_ ?_ ?_ ?_ ?_ ?_ ?_ ?_ (hT1.kept hgw.out (by omega)) (hT3.kept hgw.out (by omega)) (hW3.kept hgw.out (by omega) (by omega)) (hT4.kept hgw.out (by omega)) (hW4.kept hgw.out (by omega) (by omega)) ?_
      · exact gcell hgw.out q0 (by omega)
      · exact gcell hgw.out q1 (by omega)
      · exact gcell hgw.out q2 (by omega)
      · exact gcell hgw.out q3 (by omega)
      · exact gcell hgw.out q4 (by omega)
      · exact gcell hgw.out q5 (by omega)
      · exact gcell hgw.out q6 (by omega)
      · exact gcell hgw.out q7 (by omega)
      · exact gcell hgw.out q8 (by omega)
      · exact gcell hgw.out q9 (by omega)
      · intro k h1 h3
        refine (hcs.out k (by omega)).2.trans ?_
        have e1 : decide (1 ≤ k) = true := decide_eq_true h1
        have e2 : decide (k < 4) = true := decide_eq_true (by omega)
        rw [e1, e2]
        rfl

end Go.Proofs.Ytlkecgjpmnganaa
