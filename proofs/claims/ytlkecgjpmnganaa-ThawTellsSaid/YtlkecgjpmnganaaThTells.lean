/- ThawTells: the walk. -/
import Derived.Test.YtlkecgjpmnganaaThCoursesN
import Derived.Test.YtlkecgjpmnganaaThRef2
set_option linter.unusedSimpArgs false
set_option linter.unusedVariables false
namespace Go.Proofs.Ytlkecgjpmnganaa
open Go.RowKit Go.Shelf


set_option maxRecDepth 100000 in
set_option maxHeartbeats 4000000 in
theorem tells_law (r : TR) (c i : Int) (lo : Nat) (A : Option Addr) (n cc : Nat) (ts : List R) (t0 t1 : Int) (w : World) (hx : Ranges w lo A ts) (h0 : A = none → n = 0 ∧ cc = 0) (hn : Aside (ts.length = n)) (hl : n ≤ maxLen) :
    Calls Try.prog 3 #[bV r c i, .slice A n cc, .agg #[.int .i64 t0, .int .i64 t1]] w fun e w' => e = .returned (.bool true) ∧ Below w.heap.size w w' := by
  have hlong := fun (W : World) => long_any n W
  have hkn := fun (W : World) => known_any W
  by_cases hlo : (150 < n ∧ n ≤ 1000) ∨ 1100 < n
  · rw [decide_eq_true hlo] at hlong
    unfold bV
    go_enter Try.func3, Try.ntmps3
    go_wp2_with fail
    refine (hlong _).mono ?_
    rintro e w0x ⟨rfl, rfl⟩
    go_wp2_with fail
    refine (hkn _).mono ?_
    rintro e w5 ⟨rfl, hb5⟩
    go_wp2
    go_ret
    exact ⟨rfl, (by (try show Below _ _ _); repeat (first | (with_reducible refine Below.setCell ?_ (by first | omega | (simp <;> omega)) _) | (with_reducible refine Below.alloc ?_ (by first | omega | (simp <;> omega)) _) | (with_reducible refine Below.drew ?_) | (with_reducible exact Below.refl _ _) | (with_reducible exact hb5) | (with_reducible refine below_call ?_ (by assumption) (by first | omega | (simp <;> omega))) | (with_reducible refine below_call ?_ (Drew.below (by assumption) _) (by first | omega | (simp <;> omega)))))⟩
  · rw [decide_eq_false hlo] at hlong
    have hsh : n ≤ 1100 := by omega
    have HX : Aside (Ranges w lo A ts) := hx
    have hcp := fun W (hb : Below w.heap.size w W) => copy_16 lo A n cc ts W (rngL_at.2 (hx.below hb (Nat.le_refl _))) hn h0 (by omega)
    have hck := fun A' c' W h => check_any r c i 0 A' n c' ts W h hn hl
    have hrc := fun W (hb : Below w.heap.size w W) => refCheck_any r c i lo A n cc ts W (hx.below hb (Nat.le_refl _)) hn hl
    have hki := fun W => kindsAll_any r t0 t1 W
    have hru := fun W => refRules_any r W
    have hte := fun W => refTemp_any t0 t1 W
    have hca := fun k hr h1 h2 W => refCan_any r hr t0 t1 k h1 h2 W
    have hek : errK r t0 t1 = if okRules r && okT ⟨t0, t1⟩ then 0 else 2 := rfl
    have hru1 : okRules r = true → TROk r := (okRules_iff r).1
    generalize errT r c i ts = er at hck hrc
    generalize hp : okRules r = p at hru hek hru1
    generalize hq : okT ⟨t0, t1⟩ = q at hte hek hca
    generalize errK r t0 t1 = ek at hek hki
    rw [show rV r = .agg #[.int .i64 r.frost, .int .i64 r.thaw, .int .i64 r.gain, .int .i64 r.full, .int .i64 r.ice, .int .i64 r.most, .int .i64 r.melt, .int .i64 r.rlow, .int .i64 r.rhigh, .int .i64 r.pull] from rfl] at hck hrc hki hru hca
    unfold KindsAllPost at hki
    unfold bV
    clear hx hlo hp hq
    cases p with
    | false =>
      simp only [Bool.false_and, Bool.false_eq_true, if_false] at hek
      subst hek
      simp only [show ¬ (2 : Int) = 0 by decide, if_false, List.length_nil] at hki
      clear hru1 hca hte
      go_enter Try.func3, Try.ntmps3
      go_wp2_with fail
      refine (hlong _).mono ?_
      rintro e w0x ⟨rfl, rfl⟩
      go_wp2_with fail
      refine Calls.mono (hcp _ ?_) ?_
      · exact (by (try show Below _ _ _); repeat (first | (with_reducible refine Below.setCell ?_ (by first | omega | (simp <;> omega)) _) | (with_reducible refine Below.alloc ?_ (by first | omega | (simp <;> omega)) _) | (with_reducible refine Below.drew ?_) | (with_reducible exact Below.refl _ _) | (with_reducible refine below_call ?_ (by assumption) (by first | omega | (simp <;> omega))) | (with_reducible refine below_call ?_ (Drew.below (by assumption) _) (by first | omega | (simp <;> omega)))))
      rintro e w1 ⟨A1, c1, rfl, hc1, hc2, hE1, hb1⟩
      have hz1 := hb1.size
      simp only [World.size_alloc] at hz1
      have hE1' : Ranges w1 0 A1 ts := (rngL_at.1 hE1).mono (Nat.zero_le _)
      have hl0 : w.heap.size < w1.heap.size := by omega
      have hl1 : w.heap.size + 1 < w1.heap.size := by omega
      have hB1 : Below w.heap.size w w1 := (by (try show Below _ _ _); repeat (first | (with_reducible refine Below.setCell ?_ (by first | omega | (simp <;> omega)) _) | (with_reducible refine Below.alloc ?_ (by first | omega | (simp <;> omega)) _) | (with_reducible refine Below.drew ?_) | (with_reducible exact Below.refl _ _) | (with_reducible exact hb1) | (with_reducible refine below_call ?_ (by assumption) (by first | omega | (simp <;> omega))) | (with_reducible refine below_call ?_ (Drew.below (by assumption) _) (by first | omega | (simp <;> omega)))))
      have q0 := (hb1.cell (p := ⟨w.heap.size, 0, none⟩) (by show w.heap.size < _; simp <;> omega)).trans (show _ = some (.int .i64 r.frost) by simp [go_sem])
      have q1 := (hb1.cell (p := ⟨w.heap.size, 1, none⟩) (by show w.heap.size < _; simp <;> omega)).trans (show _ = some (.int .i64 r.thaw) by simp [go_sem])
      have q2 := (hb1.cell (p := ⟨w.heap.size, 2, none⟩) (by show w.heap.size < _; simp <;> omega)).trans (show _ = some (.int .i64 r.gain) by simp [go_sem])
      have q3 := (hb1.cell (p := ⟨w.heap.size, 3, none⟩) (by show w.heap.size < _; simp <;> omega)).trans (show _ = some (.int .i64 r.full) by simp [go_sem])
      have q4 := (hb1.cell (p := ⟨w.heap.size, 4, none⟩) (by show w.heap.size < _; simp <;> omega)).trans (show _ = some (.int .i64 r.ice) by simp [go_sem])
      have q5 := (hb1.cell (p := ⟨w.heap.size, 5, none⟩) (by show w.heap.size < _; simp <;> omega)).trans (show _ = some (.int .i64 r.most) by simp [go_sem])
      have q6 := (hb1.cell (p := ⟨w.heap.size, 6, none⟩) (by show w.heap.size < _; simp <;> omega)).trans (show _ = some (.int .i64 r.melt) by simp [go_sem])
      have q7 := (hb1.cell (p := ⟨w.heap.size, 7, none⟩) (by show w.heap.size < _; simp <;> omega)).trans (show _ = some (.int .i64 r.rlow) by simp [go_sem])
      have q8 := (hb1.cell (p := ⟨w.heap.size, 8, none⟩) (by show w.heap.size < _; simp <;> omega)).trans (show _ = some (.int .i64 r.rhigh) by simp [go_sem])
      have q9 := (hb1.cell (p := ⟨w.heap.size, 9, none⟩) (by show w.heap.size < _; simp <;> omega)).trans (show _ = some (.int .i64 r.pull) by simp [go_sem])
      have q10 := (hb1.cell (p := ⟨w.heap.size, 10, none⟩) (by show w.heap.size < _; simp <;> omega)).trans (show _ = some (.int .i64 c) by simp [go_sem])
      have q11 := (hb1.cell (p := ⟨w.heap.size, 11, none⟩) (by show w.heap.size < _; simp <;> omega)).trans (show _ = some (.int .i64 i) by simp [go_sem])
      have s0 := (hb1.cell (p := ⟨w.heap.size + 1, 0, none⟩) (by show w.heap.size + 1 < _; simp)).trans (show _ = some (.int .i64 t0) by simp [go_sem])
      have s1 := (hb1.cell (p := ⟨w.heap.size + 1, 1, none⟩) (by show w.heap.size + 1 < _; simp)).trans (show _ = some (.int .i64 t1) by simp [go_sem])
      clear hE1
      go_wp2_with fail
      refine Calls.mono (hck _ _ _ hE1') ?_
      rintro e w2 ⟨rfl, hb2⟩
      have hz2 := hb2.size
      replace q0 := (hb2.cell hl0).trans q0
      replace q1 := (hb2.cell hl0).trans q1
      replace q2 := (hb2.cell hl0).trans q2
      replace q3 := (hb2.cell hl0).trans q3
      replace q4 := (hb2.cell hl0).trans q4
      replace q5 := (hb2.cell hl0).trans q5
      replace q6 := (hb2.cell hl0).trans q6
      replace q7 := (hb2.cell hl0).trans q7
      replace q8 := (hb2.cell hl0).trans q8
      replace q9 := (hb2.cell hl0).trans q9
      replace q10 := (hb2.cell hl0).trans q10
      replace q11 := (hb2.cell hl0).trans q11
      replace s0 := (hb2.cell hl1).trans s0
      replace s1 := (hb2.cell hl1).trans s1
      have hl02 : w.heap.size < w2.heap.size := by omega
      have hl12 : w.heap.size + 1 < w2.heap.size := by omega
      have hB2 : Below w.heap.size w w2 := hB1.trans (hb2.mono (by omega))
      go_wp2_with fail
      refine Calls.mono (hrc _ hB2) ?_
      rintro e w3 ⟨rfl, hb3⟩
      have hz3 := hb3.size
      replace q0 := (hb3.cell hl02).trans q0
      replace q1 := (hb3.cell hl02).trans q1
      replace q2 := (hb3.cell hl02).trans q2
      replace q3 := (hb3.cell hl02).trans q3
      replace q4 := (hb3.cell hl02).trans q4
      replace q5 := (hb3.cell hl02).trans q5
      replace q6 := (hb3.cell hl02).trans q6
      replace q7 := (hb3.cell hl02).trans q7
      replace q8 := (hb3.cell hl02).trans q8
      replace q9 := (hb3.cell hl02).trans q9
      replace q10 := (hb3.cell hl02).trans q10
      replace q11 := (hb3.cell hl02).trans q11
      replace s0 := (hb3.cell hl12).trans s0
      replace s1 := (hb3.cell hl12).trans s1
      have hl03 : w.heap.size < w3.heap.size := by omega
      have hl13 : w.heap.size + 1 < w3.heap.size := by omega
      have hB3 : Below w.heap.size w w3 := hB2.trans (hb3.mono (by omega))
      have hT13 : Below w1.heap.size w1 w3 := hb2.trans (hb3.mono (by omega))
      have hsm := rangesR_self 0 lo A1 c1 A n cc ts w3 (hE1'.below hT13 (Nat.le_refl _)) (HX.below hB3 (Nat.le_refl _)) hn hl
      go_wp2_with fail
      refine Calls.mono hsm ?_
      rintro e w4 ⟨rfl, hd4⟩
      have hb4 := hd4.below w3.heap.size
      have hz4 := hb4.size
      clear hd4 hsm hT13 hE1'
      replace q0 := (hb4.cell hl03).trans q0
      replace q1 := (hb4.cell hl03).trans q1
      replace q2 := (hb4.cell hl03).trans q2
      replace q3 := (hb4.cell hl03).trans q3
      replace q4 := (hb4.cell hl03).trans q4
      replace q5 := (hb4.cell hl03).trans q5
      replace q6 := (hb4.cell hl03).trans q6
      replace q7 := (hb4.cell hl03).trans q7
      replace q8 := (hb4.cell hl03).trans q8
      replace q9 := (hb4.cell hl03).trans q9
      replace q10 := (hb4.cell hl03).trans q10
      replace q11 := (hb4.cell hl03).trans q11
      replace s0 := (hb4.cell hl13).trans s0
      replace s1 := (hb4.cell hl13).trans s1
      have hl04 : w.heap.size < w4.heap.size := by omega
      have hl14 : w.heap.size + 1 < w4.heap.size := by omega
      have hB4 : Below w.heap.size w w4 := hB3.trans (hb4.mono (by omega))
      go_wp2_with fail
      refine Calls.mono (hki _) ?_
      rintro e w5 ⟨A5, c5, rfl, hv1, hv2, hv3, hE5, hb5⟩
      have hz5 := hb5.size
      replace q0 := (hb5.cell hl04).trans q0
      replace q1 := (hb5.cell hl04).trans q1
      replace q2 := (hb5.cell hl04).trans q2
      replace q3 := (hb5.cell hl04).trans q3
      replace q4 := (hb5.cell hl04).trans q4
      replace q5 := (hb5.cell hl04).trans q5
      replace q6 := (hb5.cell hl04).trans q6
      replace q7 := (hb5.cell hl04).trans q7
      replace q8 := (hb5.cell hl04).trans q8
      replace q9 := (hb5.cell hl04).trans q9
      replace q10 := (hb5.cell hl04).trans q10
      replace q11 := (hb5.cell hl04).trans q11
      replace s0 := (hb5.cell hl14).trans s0
      replace s1 := (hb5.cell hl14).trans s1
      have hl05 : w.heap.size < w5.heap.size := by omega
      have hl15 : w.heap.size + 1 < w5.heap.size := by omega
      have hB5 : Below w.heap.size w w5 := hB4.trans (hb5.mono (by omega))
      go_wp2_with fail
      refine Calls.mono (hru _) ?_
      rintro e w6 ⟨rfl, hb6⟩
      have hz6 := hb6.size
      replace q0 := (hb6.cell hl05).trans q0
      replace q1 := (hb6.cell hl05).trans q1
      replace q2 := (hb6.cell hl05).trans q2
      replace q3 := (hb6.cell hl05).trans q3
      replace q4 := (hb6.cell hl05).trans q4
      replace q5 := (hb6.cell hl05).trans q5
      replace q6 := (hb6.cell hl05).trans q6
      replace q7 := (hb6.cell hl05).trans q7
      replace q8 := (hb6.cell hl05).trans q8
      replace q9 := (hb6.cell hl05).trans q9
      replace q10 := (hb6.cell hl05).trans q10
      replace q11 := (hb6.cell hl05).trans q11
      replace s0 := (hb6.cell hl15).trans s0
      replace s1 := (hb6.cell hl15).trans s1
      have hl06 : w.heap.size < w6.heap.size := by omega
      have hl16 : w.heap.size + 1 < w6.heap.size := by omega
      have hB6 : Below w.heap.size w w6 := hB5.trans (hb6.mono (by omega))
      go_wp2_with fail
      refine (hkn _).mono ?_
      rintro e w9 ⟨rfl, hb9⟩
      go_wp2
      go_ret
      exact ⟨rfl, hB6.trans (hb9.mono (by omega))⟩
    | true =>
      cases q with
      | false =>
        simp only [Bool.and_false, Bool.false_eq_true, if_false] at hek
        subst hek
        simp only [show ¬ (2 : Int) = 0 by decide, if_false, List.length_nil] at hki
        clear hru1 hca
        go_enter Try.func3, Try.ntmps3
        go_wp2_with fail
        refine (hlong _).mono ?_
        rintro e w0x ⟨rfl, rfl⟩
        go_wp2_with fail
        refine Calls.mono (hcp _ ?_) ?_
        · exact (by (try show Below _ _ _); repeat (first | (with_reducible refine Below.setCell ?_ (by first | omega | (simp <;> omega)) _) | (with_reducible refine Below.alloc ?_ (by first | omega | (simp <;> omega)) _) | (with_reducible refine Below.drew ?_) | (with_reducible exact Below.refl _ _) | (with_reducible refine below_call ?_ (by assumption) (by first | omega | (simp <;> omega))) | (with_reducible refine below_call ?_ (Drew.below (by assumption) _) (by first | omega | (simp <;> omega)))))
        rintro e w1 ⟨A1, c1, rfl, hc1, hc2, hE1, hb1⟩
        have hz1 := hb1.size
        simp only [World.size_alloc] at hz1
        have hE1' : Ranges w1 0 A1 ts := (rngL_at.1 hE1).mono (Nat.zero_le _)
        have hl0 : w.heap.size < w1.heap.size := by omega
        have hl1 : w.heap.size + 1 < w1.heap.size := by omega
        have hB1 : Below w.heap.size w w1 := (by (try show Below _ _ _); repeat (first | (with_reducible refine Below.setCell ?_ (by first | omega | (simp <;> omega)) _) | (with_reducible refine Below.alloc ?_ (by first | omega | (simp <;> omega)) _) | (with_reducible refine Below.drew ?_) | (with_reducible exact Below.refl _ _) | (with_reducible exact hb1) | (with_reducible refine below_call ?_ (by assumption) (by first | omega | (simp <;> omega))) | (with_reducible refine below_call ?_ (Drew.below (by assumption) _) (by first | omega | (simp <;> omega)))))
        have q0 := (hb1.cell (p := ⟨w.heap.size, 0, none⟩) (by show w.heap.size < _; simp <;> omega)).trans (show _ = some (.int .i64 r.frost) by simp [go_sem])
        have q1 := (hb1.cell (p := ⟨w.heap.size, 1, none⟩) (by show w.heap.size < _; simp <;> omega)).trans (show _ = some (.int .i64 r.thaw) by simp [go_sem])
        have q2 := (hb1.cell (p := ⟨w.heap.size, 2, none⟩) (by show w.heap.size < _; simp <;> omega)).trans (show _ = some (.int .i64 r.gain) by simp [go_sem])
        have q3 := (hb1.cell (p := ⟨w.heap.size, 3, none⟩) (by show w.heap.size < _; simp <;> omega)).trans (show _ = some (.int .i64 r.full) by simp [go_sem])
        have q4 := (hb1.cell (p := ⟨w.heap.size, 4, none⟩) (by show w.heap.size < _; simp <;> omega)).trans (show _ = some (.int .i64 r.ice) by simp [go_sem])
        have q5 := (hb1.cell (p := ⟨w.heap.size, 5, none⟩) (by show w.heap.size < _; simp <;> omega)).trans (show _ = some (.int .i64 r.most) by simp [go_sem])
        have q6 := (hb1.cell (p := ⟨w.heap.size, 6, none⟩) (by show w.heap.size < _; simp <;> omega)).trans (show _ = some (.int .i64 r.melt) by simp [go_sem])
        have q7 := (hb1.cell (p := ⟨w.heap.size, 7, none⟩) (by show w.heap.size < _; simp <;> omega)).trans (show _ = some (.int .i64 r.rlow) by simp [go_sem])
        have q8 := (hb1.cell (p := ⟨w.heap.size, 8, none⟩) (by show w.heap.size < _; simp <;> omega)).trans (show _ = some (.int .i64 r.rhigh) by simp [go_sem])
        have q9 := (hb1.cell (p := ⟨w.heap.size, 9, none⟩) (by show w.heap.size < _; simp <;> omega)).trans (show _ = some (.int .i64 r.pull) by simp [go_sem])
        have q10 := (hb1.cell (p := ⟨w.heap.size, 10, none⟩) (by show w.heap.size < _; simp <;> omega)).trans (show _ = some (.int .i64 c) by simp [go_sem])
        have q11 := (hb1.cell (p := ⟨w.heap.size, 11, none⟩) (by show w.heap.size < _; simp <;> omega)).trans (show _ = some (.int .i64 i) by simp [go_sem])
        have s0 := (hb1.cell (p := ⟨w.heap.size + 1, 0, none⟩) (by show w.heap.size + 1 < _; simp)).trans (show _ = some (.int .i64 t0) by simp [go_sem])
        have s1 := (hb1.cell (p := ⟨w.heap.size + 1, 1, none⟩) (by show w.heap.size + 1 < _; simp)).trans (show _ = some (.int .i64 t1) by simp [go_sem])
        clear hE1
        go_wp2_with fail
        refine Calls.mono (hck _ _ _ hE1') ?_
        rintro e w2 ⟨rfl, hb2⟩
        have hz2 := hb2.size
        replace q0 := (hb2.cell hl0).trans q0
        replace q1 := (hb2.cell hl0).trans q1
        replace q2 := (hb2.cell hl0).trans q2
        replace q3 := (hb2.cell hl0).trans q3
        replace q4 := (hb2.cell hl0).trans q4
        replace q5 := (hb2.cell hl0).trans q5
        replace q6 := (hb2.cell hl0).trans q6
        replace q7 := (hb2.cell hl0).trans q7
        replace q8 := (hb2.cell hl0).trans q8
        replace q9 := (hb2.cell hl0).trans q9
        replace q10 := (hb2.cell hl0).trans q10
        replace q11 := (hb2.cell hl0).trans q11
        replace s0 := (hb2.cell hl1).trans s0
        replace s1 := (hb2.cell hl1).trans s1
        have hl02 : w.heap.size < w2.heap.size := by omega
        have hl12 : w.heap.size + 1 < w2.heap.size := by omega
        have hB2 : Below w.heap.size w w2 := hB1.trans (hb2.mono (by omega))
        go_wp2_with fail
        refine Calls.mono (hrc _ hB2) ?_
        rintro e w3 ⟨rfl, hb3⟩
        have hz3 := hb3.size
        replace q0 := (hb3.cell hl02).trans q0
        replace q1 := (hb3.cell hl02).trans q1
        replace q2 := (hb3.cell hl02).trans q2
        replace q3 := (hb3.cell hl02).trans q3
        replace q4 := (hb3.cell hl02).trans q4
        replace q5 := (hb3.cell hl02).trans q5
        replace q6 := (hb3.cell hl02).trans q6
        replace q7 := (hb3.cell hl02).trans q7
        replace q8 := (hb3.cell hl02).trans q8
        replace q9 := (hb3.cell hl02).trans q9
        replace q10 := (hb3.cell hl02).trans q10
        replace q11 := (hb3.cell hl02).trans q11
        replace s0 := (hb3.cell hl12).trans s0
        replace s1 := (hb3.cell hl12).trans s1
        have hl03 : w.heap.size < w3.heap.size := by omega
        have hl13 : w.heap.size + 1 < w3.heap.size := by omega
        have hB3 : Below w.heap.size w w3 := hB2.trans (hb3.mono (by omega))
        have hT13 : Below w1.heap.size w1 w3 := hb2.trans (hb3.mono (by omega))
        have hsm := rangesR_self 0 lo A1 c1 A n cc ts w3 (hE1'.below hT13 (Nat.le_refl _)) (HX.below hB3 (Nat.le_refl _)) hn hl
        go_wp2_with fail
        refine Calls.mono hsm ?_
        rintro e w4 ⟨rfl, hd4⟩
        have hb4 := hd4.below w3.heap.size
        have hz4 := hb4.size
        clear hd4 hsm hT13 hE1'
        replace q0 := (hb4.cell hl03).trans q0
        replace q1 := (hb4.cell hl03).trans q1
        replace q2 := (hb4.cell hl03).trans q2
        replace q3 := (hb4.cell hl03).trans q3
        replace q4 := (hb4.cell hl03).trans q4
        replace q5 := (hb4.cell hl03).trans q5
        replace q6 := (hb4.cell hl03).trans q6
        replace q7 := (hb4.cell hl03).trans q7
        replace q8 := (hb4.cell hl03).trans q8
        replace q9 := (hb4.cell hl03).trans q9
        replace q10 := (hb4.cell hl03).trans q10
        replace q11 := (hb4.cell hl03).trans q11
        replace s0 := (hb4.cell hl13).trans s0
        replace s1 := (hb4.cell hl13).trans s1
        have hl04 : w.heap.size < w4.heap.size := by omega
        have hl14 : w.heap.size + 1 < w4.heap.size := by omega
        have hB4 : Below w.heap.size w w4 := hB3.trans (hb4.mono (by omega))
        go_wp2_with fail
        refine Calls.mono (hki _) ?_
        rintro e w5 ⟨A5, c5, rfl, hv1, hv2, hv3, hE5, hb5⟩
        have hz5 := hb5.size
        replace q0 := (hb5.cell hl04).trans q0
        replace q1 := (hb5.cell hl04).trans q1
        replace q2 := (hb5.cell hl04).trans q2
        replace q3 := (hb5.cell hl04).trans q3
        replace q4 := (hb5.cell hl04).trans q4
        replace q5 := (hb5.cell hl04).trans q5
        replace q6 := (hb5.cell hl04).trans q6
        replace q7 := (hb5.cell hl04).trans q7
        replace q8 := (hb5.cell hl04).trans q8
        replace q9 := (hb5.cell hl04).trans q9
        replace q10 := (hb5.cell hl04).trans q10
        replace q11 := (hb5.cell hl04).trans q11
        replace s0 := (hb5.cell hl14).trans s0
        replace s1 := (hb5.cell hl14).trans s1
        have hl05 : w.heap.size < w5.heap.size := by omega
        have hl15 : w.heap.size + 1 < w5.heap.size := by omega
        have hB5 : Below w.heap.size w w5 := hB4.trans (hb5.mono (by omega))
        go_wp2_with fail
        refine Calls.mono (hru _) ?_
        rintro e w6 ⟨rfl, hb6⟩
        have hz6 := hb6.size
        replace q0 := (hb6.cell hl05).trans q0
        replace q1 := (hb6.cell hl05).trans q1
        replace q2 := (hb6.cell hl05).trans q2
        replace q3 := (hb6.cell hl05).trans q3
        replace q4 := (hb6.cell hl05).trans q4
        replace q5 := (hb6.cell hl05).trans q5
        replace q6 := (hb6.cell hl05).trans q6
        replace q7 := (hb6.cell hl05).trans q7
        replace q8 := (hb6.cell hl05).trans q8
        replace q9 := (hb6.cell hl05).trans q9
        replace q10 := (hb6.cell hl05).trans q10
        replace q11 := (hb6.cell hl05).trans q11
        replace s0 := (hb6.cell hl15).trans s0
        replace s1 := (hb6.cell hl15).trans s1
        have hl06 : w.heap.size < w6.heap.size := by omega
        have hl16 : w.heap.size + 1 < w6.heap.size := by omega
        have hB6 : Below w.heap.size w w6 := hB5.trans (hb6.mono (by omega))
        go_wp2_with fail
        refine Calls.mono (hte _) ?_
        rintro e w7 ⟨rfl, hb7⟩
        have hz7 := hb7.size
        replace q0 := (hb7.cell hl06).trans q0
        replace q1 := (hb7.cell hl06).trans q1
        replace q2 := (hb7.cell hl06).trans q2
        replace q3 := (hb7.cell hl06).trans q3
        replace q4 := (hb7.cell hl06).trans q4
        replace q5 := (hb7.cell hl06).trans q5
        replace q6 := (hb7.cell hl06).trans q6
        replace q7 := (hb7.cell hl06).trans q7
        replace q8 := (hb7.cell hl06).trans q8
        replace q9 := (hb7.cell hl06).trans q9
        replace q10 := (hb7.cell hl06).trans q10
        replace q11 := (hb7.cell hl06).trans q11
        replace s0 := (hb7.cell hl16).trans s0
        replace s1 := (hb7.cell hl16).trans s1
        have hl07 : w.heap.size < w7.heap.size := by omega
        have hl17 : w.heap.size + 1 < w7.heap.size := by omega
        have hB7 : Below w.heap.size w w7 := hB6.trans (hb7.mono (by omega))
        go_wp2_with fail
        refine (hkn _).mono ?_
        rintro e w9 ⟨rfl, hb9⟩
        go_wp2
        go_ret
        exact ⟨rfl, hB7.trans (hb9.mono (by omega))⟩
      | true =>
        simp only [Bool.and_true, if_true] at hek
        subst hek
        simp only [if_true] at hki
        have hr := hru1 rfl
        replace hca := fun k h2 W => hca k hr rfl h2 W
        have hup := kindsUp_succ r t0 t1
        have hle := kindsUp_le r t0 t1
        have h00 : kindsUp r t0 t1 0 = [] := rfl
        rw [show kindsT r t0 t1 = kindsUp r t0 t1 3 from rfl] at hki
        generalize kindsUp r t0 t1 = U at hup hle h00 hki
        generalize canT r t0 t1 = can at hup hca
        generalize hm : (U 3).length = m at hki
        have hm3 : m ≤ 3 := by have := hle 3; omega
        have HU := Lib.hid hup
        have HL := Lib.hid hle
        have HM := Lib.hid hm
        have HR : Aside (TROk r) := hr
        obtain ⟨i5, hi5, hz5', hs5', hb5'⟩ := info_parts infoKind
        clear hup hle hr hru1 hm
        go_enter Try.func3, Try.ntmps3
        go_wp2_with fail
        refine (hlong _).mono ?_
        rintro e w0x ⟨rfl, rfl⟩
        go_wp2_with fail
        refine Calls.mono (hcp _ ?_) ?_
        · exact (by (try show Below _ _ _); repeat (first | (with_reducible refine Below.setCell ?_ (by first | omega | (simp <;> omega)) _) | (with_reducible refine Below.alloc ?_ (by first | omega | (simp <;> omega)) _) | (with_reducible refine Below.drew ?_) | (with_reducible exact Below.refl _ _) | (with_reducible refine below_call ?_ (by assumption) (by first | omega | (simp <;> omega))) | (with_reducible refine below_call ?_ (Drew.below (by assumption) _) (by first | omega | (simp <;> omega)))))
        rintro e w1 ⟨A1, c1, rfl, hc1, hc2, hE1, hb1⟩
        have hz1 := hb1.size
        simp only [World.size_alloc] at hz1
        have hE1' : Ranges w1 0 A1 ts := (rngL_at.1 hE1).mono (Nat.zero_le _)
        have hl0 : w.heap.size < w1.heap.size := by omega
        have hl1 : w.heap.size + 1 < w1.heap.size := by omega
        have hB1 : Below w.heap.size w w1 := (by (try show Below _ _ _); repeat (first | (with_reducible refine Below.setCell ?_ (by first | omega | (simp <;> omega)) _) | (with_reducible refine Below.alloc ?_ (by first | omega | (simp <;> omega)) _) | (with_reducible refine Below.drew ?_) | (with_reducible exact Below.refl _ _) | (with_reducible exact hb1) | (with_reducible refine below_call ?_ (by assumption) (by first | omega | (simp <;> omega))) | (with_reducible refine below_call ?_ (Drew.below (by assumption) _) (by first | omega | (simp <;> omega)))))
        have q0 := (hb1.cell (p := ⟨w.heap.size, 0, none⟩) (by show w.heap.size < _; simp <;> omega)).trans (show _ = some (.int .i64 r.frost) by simp [go_sem])
        have q1 := (hb1.cell (p := ⟨w.heap.size, 1, none⟩) (by show w.heap.size < _; simp <;> omega)).trans (show _ = some (.int .i64 r.thaw) by simp [go_sem])
        have q2 := (hb1.cell (p := ⟨w.heap.size, 2, none⟩) (by show w.heap.size < _; simp <;> omega)).trans (show _ = some (.int .i64 r.gain) by simp [go_sem])
        have q3 := (hb1.cell (p := ⟨w.heap.size, 3, none⟩) (by show w.heap.size < _; simp <;> omega)).trans (show _ = some (.int .i64 r.full) by simp [go_sem])
        have q4 := (hb1.cell (p := ⟨w.heap.size, 4, none⟩) (by show w.heap.size < _; simp <;> omega)).trans (show _ = some (.int .i64 r.ice) by simp [go_sem])
        have q5 := (hb1.cell (p := ⟨w.heap.size, 5, none⟩) (by show w.heap.size < _; simp <;> omega)).trans (show _ = some (.int .i64 r.most) by simp [go_sem])
        have q6 := (hb1.cell (p := ⟨w.heap.size, 6, none⟩) (by show w.heap.size < _; simp <;> omega)).trans (show _ = some (.int .i64 r.melt) by simp [go_sem])
        have q7 := (hb1.cell (p := ⟨w.heap.size, 7, none⟩) (by show w.heap.size < _; simp <;> omega)).trans (show _ = some (.int .i64 r.rlow) by simp [go_sem])
        have q8 := (hb1.cell (p := ⟨w.heap.size, 8, none⟩) (by show w.heap.size < _; simp <;> omega)).trans (show _ = some (.int .i64 r.rhigh) by simp [go_sem])
        have q9 := (hb1.cell (p := ⟨w.heap.size, 9, none⟩) (by show w.heap.size < _; simp <;> omega)).trans (show _ = some (.int .i64 r.pull) by simp [go_sem])
        have q10 := (hb1.cell (p := ⟨w.heap.size, 10, none⟩) (by show w.heap.size < _; simp <;> omega)).trans (show _ = some (.int .i64 c) by simp [go_sem])
        have q11 := (hb1.cell (p := ⟨w.heap.size, 11, none⟩) (by show w.heap.size < _; simp <;> omega)).trans (show _ = some (.int .i64 i) by simp [go_sem])
        have s0 := (hb1.cell (p := ⟨w.heap.size + 1, 0, none⟩) (by show w.heap.size + 1 < _; simp)).trans (show _ = some (.int .i64 t0) by simp [go_sem])
        have s1 := (hb1.cell (p := ⟨w.heap.size + 1, 1, none⟩) (by show w.heap.size + 1 < _; simp)).trans (show _ = some (.int .i64 t1) by simp [go_sem])
        clear hE1
        go_wp2_with fail
        refine Calls.mono (hck _ _ _ hE1') ?_
        rintro e w2 ⟨rfl, hb2⟩
        have hz2 := hb2.size
        replace q0 := (hb2.cell hl0).trans q0
        replace q1 := (hb2.cell hl0).trans q1
        replace q2 := (hb2.cell hl0).trans q2
        replace q3 := (hb2.cell hl0).trans q3
        replace q4 := (hb2.cell hl0).trans q4
        replace q5 := (hb2.cell hl0).trans q5
        replace q6 := (hb2.cell hl0).trans q6
        replace q7 := (hb2.cell hl0).trans q7
        replace q8 := (hb2.cell hl0).trans q8
        replace q9 := (hb2.cell hl0).trans q9
        replace q10 := (hb2.cell hl0).trans q10
        replace q11 := (hb2.cell hl0).trans q11
        replace s0 := (hb2.cell hl1).trans s0
        replace s1 := (hb2.cell hl1).trans s1
        have hl02 : w.heap.size < w2.heap.size := by omega
        have hl12 : w.heap.size + 1 < w2.heap.size := by omega
        have hB2 : Below w.heap.size w w2 := hB1.trans (hb2.mono (by omega))
        go_wp2_with fail
        refine Calls.mono (hrc _ hB2) ?_
        rintro e w3 ⟨rfl, hb3⟩
        have hz3 := hb3.size
        replace q0 := (hb3.cell hl02).trans q0
        replace q1 := (hb3.cell hl02).trans q1
        replace q2 := (hb3.cell hl02).trans q2
        replace q3 := (hb3.cell hl02).trans q3
        replace q4 := (hb3.cell hl02).trans q4
        replace q5 := (hb3.cell hl02).trans q5
        replace q6 := (hb3.cell hl02).trans q6
        replace q7 := (hb3.cell hl02).trans q7
        replace q8 := (hb3.cell hl02).trans q8
        replace q9 := (hb3.cell hl02).trans q9
        replace q10 := (hb3.cell hl02).trans q10
        replace q11 := (hb3.cell hl02).trans q11
        replace s0 := (hb3.cell hl12).trans s0
        replace s1 := (hb3.cell hl12).trans s1
        have hl03 : w.heap.size < w3.heap.size := by omega
        have hl13 : w.heap.size + 1 < w3.heap.size := by omega
        have hB3 : Below w.heap.size w w3 := hB2.trans (hb3.mono (by omega))
        have hT13 : Below w1.heap.size w1 w3 := hb2.trans (hb3.mono (by omega))
        have hsm := rangesR_self 0 lo A1 c1 A n cc ts w3 (hE1'.below hT13 (Nat.le_refl _)) (HX.below hB3 (Nat.le_refl _)) hn hl
        go_wp2_with fail
        refine Calls.mono hsm ?_
        rintro e w4 ⟨rfl, hd4⟩
        have hb4 := hd4.below w3.heap.size
        have hz4 := hb4.size
        clear hd4 hsm hT13 hE1'
        replace q0 := (hb4.cell hl03).trans q0
        replace q1 := (hb4.cell hl03).trans q1
        replace q2 := (hb4.cell hl03).trans q2
        replace q3 := (hb4.cell hl03).trans q3
        replace q4 := (hb4.cell hl03).trans q4
        replace q5 := (hb4.cell hl03).trans q5
        replace q6 := (hb4.cell hl03).trans q6
        replace q7 := (hb4.cell hl03).trans q7
        replace q8 := (hb4.cell hl03).trans q8
        replace q9 := (hb4.cell hl03).trans q9
        replace q10 := (hb4.cell hl03).trans q10
        replace q11 := (hb4.cell hl03).trans q11
        replace s0 := (hb4.cell hl13).trans s0
        replace s1 := (hb4.cell hl13).trans s1
        have hl04 : w.heap.size < w4.heap.size := by omega
        have hl14 : w.heap.size + 1 < w4.heap.size := by omega
        have hB4 : Below w.heap.size w w4 := hB3.trans (hb4.mono (by omega))
        go_wp2_with fail
        refine Calls.mono (hki _) ?_
        rintro e w5 ⟨A5, c5, rfl, hv1, hv2, hv3, hE5, hb5⟩
        have hz5 := hb5.size
        replace q0 := (hb5.cell hl04).trans q0
        replace q1 := (hb5.cell hl04).trans q1
        replace q2 := (hb5.cell hl04).trans q2
        replace q3 := (hb5.cell hl04).trans q3
        replace q4 := (hb5.cell hl04).trans q4
        replace q5 := (hb5.cell hl04).trans q5
        replace q6 := (hb5.cell hl04).trans q6
        replace q7 := (hb5.cell hl04).trans q7
        replace q8 := (hb5.cell hl04).trans q8
        replace q9 := (hb5.cell hl04).trans q9
        replace q10 := (hb5.cell hl04).trans q10
        replace q11 := (hb5.cell hl04).trans q11
        replace s0 := (hb5.cell hl14).trans s0
        replace s1 := (hb5.cell hl14).trans s1
        have hl05 : w.heap.size < w5.heap.size := by omega
        have hl15 : w.heap.size + 1 < w5.heap.size := by omega
        have hB5 : Below w.heap.size w w5 := hB4.trans (hb5.mono (by omega))
        go_wp2_with fail
        refine Calls.mono (hru _) ?_
        rintro e w6 ⟨rfl, hb6⟩
        have hz6 := hb6.size
        replace q0 := (hb6.cell hl05).trans q0
        replace q1 := (hb6.cell hl05).trans q1
        replace q2 := (hb6.cell hl05).trans q2
        replace q3 := (hb6.cell hl05).trans q3
        replace q4 := (hb6.cell hl05).trans q4
        replace q5 := (hb6.cell hl05).trans q5
        replace q6 := (hb6.cell hl05).trans q6
        replace q7 := (hb6.cell hl05).trans q7
        replace q8 := (hb6.cell hl05).trans q8
        replace q9 := (hb6.cell hl05).trans q9
        replace q10 := (hb6.cell hl05).trans q10
        replace q11 := (hb6.cell hl05).trans q11
        replace s0 := (hb6.cell hl15).trans s0
        replace s1 := (hb6.cell hl15).trans s1
        have hl06 : w.heap.size < w6.heap.size := by omega
        have hl16 : w.heap.size + 1 < w6.heap.size := by omega
        have hB6 : Below w.heap.size w w6 := hB5.trans (hb6.mono (by omega))
        go_wp2_with fail
        refine Calls.mono (hte _) ?_
        rintro e w7 ⟨rfl, hb7⟩
        have hz7 := hb7.size
        replace q0 := (hb7.cell hl06).trans q0
        replace q1 := (hb7.cell hl06).trans q1
        replace q2 := (hb7.cell hl06).trans q2
        replace q3 := (hb7.cell hl06).trans q3
        replace q4 := (hb7.cell hl06).trans q4
        replace q5 := (hb7.cell hl06).trans q5
        replace q6 := (hb7.cell hl06).trans q6
        replace q7 := (hb7.cell hl06).trans q7
        replace q8 := (hb7.cell hl06).trans q8
        replace q9 := (hb7.cell hl06).trans q9
        replace q10 := (hb7.cell hl06).trans q10
        replace q11 := (hb7.cell hl06).trans q11
        replace s0 := (hb7.cell hl16).trans s0
        replace s1 := (hb7.cell hl16).trans s1
        have hl07 : w.heap.size < w7.heap.size := by omega
        have hl17 : w.heap.size + 1 < w7.heap.size := by omega
        have hB7 : Below w.heap.size w w7 := hB6.trans (hb7.mono (by omega))
        go_wp2_with fail
        have hown := ownsRow_emptyK w7 43 1
        go_upto_region 11 with (fail)
        have hB8 : Below w7.heap.size w7 (w7.alloc (.cells #[] 43)) := (Below.refl _ _).alloc (Nat.le_refl _) _
        have hz8 : (w7.alloc (.cells #[] 43)).heap.size = w7.heap.size + 1 := by simp
        generalize w7.alloc (.cells #[] 43) = w8 at hown hB8 hz8 ⊢
        replace q0 := (hB8.cell hl07).trans q0
        replace q1 := (hB8.cell hl07).trans q1
        replace q2 := (hB8.cell hl07).trans q2
        replace q3 := (hB8.cell hl07).trans q3
        replace q4 := (hB8.cell hl07).trans q4
        replace q5 := (hB8.cell hl07).trans q5
        replace q6 := (hB8.cell hl07).trans q6
        replace q7 := (hB8.cell hl07).trans q7
        replace q8 := (hB8.cell hl07).trans q8
        replace q9 := (hB8.cell hl07).trans q9
        replace q10 := (hB8.cell hl07).trans q10
        replace q11 := (hB8.cell hl07).trans q11
        replace s0 := (hB8.cell hl17).trans s0
        replace s1 := (hB8.cell hl17).trans s1
        have HQ := Lib.hid (And.intro q0 (And.intro q1 (And.intro q2 (And.intro q3 (And.intro q4 (And.intro q5 (And.intro q6 (And.intro q7 (And.intro q8 (And.intro q9 (And.intro s0 s1)))))))))))
        have hT58 : Aside (Below w5.heap.size w5 w8) := (hb6.trans (hb7.mono (by omega))).trans (hB8.mono (by omega))
        have hW8 : Aside (Below w.heap.size w w8) := hB7.trans (hB8.mono (by omega))
        have HE5 : Aside (Els (Value.int .i64) 0 w5 w4.heap.size A5 (U 3)) := hE5
        have HO : Aside (Own1 (Value.int .i64) 43 w8 w7.heap.size (.slice (some ⟨w7.heap.size, 0, none⟩) 0 0) (U 0)) := by rw [h00]; exact hown
        clear q0 q1 q2 q3 q4 q5 q6 q7 q8 q9 q10 q11 s0 s1 hE5 hown
        go_wp2_with fail
        go_loopg [11, 12] (3) (fun gg v ii wr => ∃ k : Nat, k ≤ 3 ∧ 3 - k ≤ gg ∧ ii = .int .i64 ((k : Int) + 1) ∧ Aside (Own1 (Value.int .i64) 43 wr w7.heap.size v (U k)) ∧ Aside (Below w7.heap.size w8 wr))
        case atStart => exact ⟨0, by omega, by omega, rfl, HO, Below.refl _ _⟩
        case round =>
          obtain ⟨k, hk, hg, rfl, hO, hB⟩ := hrel
          obtain ⟨q0, q1, q2, q3, q4, q5, q6, q7, q8, q9, s0, s1⟩ := HQ.out
          replace q0 := (hB.out.cell hl07).trans q0
          replace q1 := (hB.out.cell hl07).trans q1
          replace q2 := (hB.out.cell hl07).trans q2
          replace q3 := (hB.out.cell hl07).trans q3
          replace q4 := (hB.out.cell hl07).trans q4
          replace q5 := (hB.out.cell hl07).trans q5
          replace q6 := (hB.out.cell hl07).trans q6
          replace q7 := (hB.out.cell hl07).trans q7
          replace q8 := (hB.out.cell hl07).trans q8
          replace q9 := (hB.out.cell hl07).trans q9
          replace s0 := (hB.out.cell hl17).trans s0
          replace s1 := (hB.out.cell hl17).trans s1
          have hbs := hB.out.size
          have hlr0 : w.heap.size < wr.heap.size := by omega
          have hlr1 : w.heap.size + 1 < wr.heap.size := by omega
          obtain ⟨A4, c4, hv4, -, -, -, -⟩ := hO.out.reads 0
          subst hv4
          by_cases hlt : k < 3
          · have hltz : (k : Int) + 1 ≤ 3 := by omega
            have hcc := hca ((k : Int) + 1) (by omega)
            have hsn := HU.out k hlt
            have hlen := HL.out k
            cases hcb : can ((k : Int) + 1) with
            | false =>
              rw [hcb] at hsn hcc
              simp only [Bool.false_eq_true, if_false] at hsn
              have Hsn := Lib.hid hsn
              clear hsn
              go_wp2_with fail
              refine Calls.mono (hcc _) ?_
              rintro e wc ⟨rfl, hbc⟩
              go_wp2
              go_roundg (3 - (k + 1))
              case measure => omega
              case rel => exact ⟨k + 1, by omega, by omega, by go_num, by rw [Hsn.out]; exact hO.out.below hbc (Nat.le_refl _), hB.out.trans (hbc.mono (by omega))⟩
            | true =>
              rw [hcb] at hsn hcc
              simp only [if_true] at hsn
              have Hsn := Lib.hid hsn
              clear hsn
              go_wp2_with fail
              refine Calls.mono (hcc _) ?_
              rintro e wc ⟨rfl, hbc⟩
              have hzc := hbc.size
              have hOc := hO.out.below hbc (Nat.le_refl _)
              have hO2 := hOc.alloc (.cells #[.int .i64 ((k : Int) + 1)] 43)
              unfold Own1 at hO2
              generalize hal : (U k).length = mm at hO2 hlen hO hOc ⊢
              have Hal := Lib.hid hal
              have hne := hOc.lt
              clear hal
              go_wp2_with (at_builtin; (refine wpList_append_lies _ rfl _ _ _ (by rfl) w7.heap.size 43 i5 _ 1 8 Try.underlying37 hi5 hz5' hs5' hb5' rfl (by omega) (.slice A4 mm c4) mm ((U k).map (Value.int .i64)) (by rfl) hO2 ⟨wc.heap.size, 0, none⟩ 1 1 [.int .i64 ((k : Int) + 1)] (by rfl) (by rfl) (news_one (by simp [go_sem])) (by simp [Value.oneCell']) (by omega) (by simp only [maxLen]; omega) (by omega) (by simp; omega) (wc.heap.size + 1) (by simp) ?_); intro g3 c3 w3' o3 hgrow hat3 hlt3)
              have hbA : Below w7.heap.size w8 w3' := Below.grown ((hB.out.trans (hbc.mono (by omega))).alloc (by omega) _) hgrow (by simp; omega) (fun k e => (hne k e).1)
              go_wp2
              go_roundg (3 - (k + 1))
              case measure => omega
              case rel => exact ⟨k + 1, by omega, by omega, by go_num, by rw [Hsn.out]; exact Own1.snoc o3 Hal.out, hbA⟩
          · obtain rfl : k = 3 := by omega
            have hse := sameK_self w4.heap.size w7.heap.size A5 c5 A4 m c4 (U 3) wr (HE5.out.below (hT58.out.trans (hB.out.mono (by omega))) (Nat.le_refl _)) (Own1.reads_slice hO.out) HM.out (by unfold maxLen; omega)
            have Hse := Lib.hid hse
            clear hse
            rw [HM.out] at hO ⊢
            go_wp2_with fail
            refine Calls.mono Hse.out ?_
            rintro e wd ⟨rfl, hdd⟩
            have hbd := hdd.below w7.heap.size
            have hzd := hbd.size
            have hBd : Below w.heap.size w wd := (hW8.out.trans (hB.out.mono (by omega))).trans (hbd.mono (by omega))
            go_wp2_with fail
            refine (hkn _).mono ?_
            rintro e w9 ⟨rfl, hb9⟩
            go_wp2
            go_ret
            exact ⟨rfl, hBd.trans (hb9.mono (by omega))⟩

end Go.Proofs.Ytlkecgjpmnganaa
