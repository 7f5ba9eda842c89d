/- ThawCourses: the walk where the course is valid. -/
import Derived.Test.YtlkecgjpmnganaaThCoursesN
set_option linter.unusedSimpArgs false
set_option linter.unusedVariables false
namespace Go.Proofs.Ytlkecgjpmnganaa
open Go.RowKit Go.Shelf


theorem grown_st {X Y : World} {nb : Nat} (h : X.grownBy Y (some nb)) (b o : Nat) (v : Value) (hb : X.heap.size ≤ b ∨ b = nb) : X.grownBy (Y.setCell ⟨b, o, none⟩ v) (some nb) := grown_tr h (grown_set Y b o v) (fun r e => by cases e; exact hb)
theorem grown_al {X Y : World} {nb : Nat} (h : X.grownBy Y (some nb)) (o : Obj) : X.grownBy (Y.alloc o) (some nb) := grown_tr h (grown_alloc Y o) (fun r e => by cases e)
set_option maxRecDepth 100000 in
set_option maxHeartbeats 4000000 in
theorem courses_good (r : TR) (c i : Int) (lo : Nat) (A : Option Addr) (n cc : Nat) (ks : List Int) (w : World) (hx : Ints w lo A ks) (h0 : A = none → n = 0 ∧ cc = 0) (hn : Aside (ks.length = n)) (hl : n ≤ maxLen) (hsh : n ≤ 1100) (hlo : ¬ ((150 < n ∧ n ≤ 1000) ∨ 1100 < n)) (her : errC r c i ks = 0) :
    Calls Try.prog 4 #[bV r c i, .slice A n cc] w fun e w' => e = .returned (.bool true) ∧ Below w.heap.size w w' := by
  have hlong := fun (W : World) => long_any n W
  rw [decide_eq_false hlo] at hlong
  have hkn := fun (W : World) => known_any W
  have HX : Aside (Ints w lo A ks) := hx
  have hcp := fun W (hb : Below w.heap.size w W) => copy_25 lo A n cc ks W (intL_at.2 (hx.below hb (Nat.le_refl _))) hn h0 (by omega)
  have hco := fun lo' A' c' W h => course_any r c i lo' A' n c' ks W h hn hl
  have hst := fun (W : World) => refStart_any r c i W
  rw [if_pos her] at hco
  have hec : errC r c i ks = if okRules r && okSt r c i then (if 1000 < n then 5 else if ks.all okK then 0 else 2) else 2 := by unfold errC; rw [hn.out]
  rw [her] at hec hco
  have hb1t : (okRules r && okSt r c i) = true := by
    cases h : (okRules r && okSt r c i) with
    | true => rfl
    | false => rw [h] at hec; simp at hec
  rw [hb1t] at hec hst
  simp only [if_true] at hec hst
  simp only [Bool.and_eq_true] at hb1t
  have hr : TROk r := (okRules_iff r).1 hb1t.1
  have hs : stIn r (c, i) := (okSt_iff r c i).1 hb1t.2
  have hlen : ¬ 1000 < n := fun h => by rw [if_pos h] at hec; simp at hec
  rw [if_neg hlen] at hec
  have hall : ks.all okK = true := by
    cases h : ks.all okK with
    | true => rfl
    | false => rw [h] at hec; simp at hec
  have hkr : Aside (∀ k ∈ ks, 1 ≤ k ∧ k ≤ 3) := fun k hk => by have := List.all_eq_true.1 hall k hk; simpa [okK] using this
  have hlz : ¬ (1000 : Int) < (n : Int) := by omega
  have hstp := fun c i k h1 h2 W => refStep_any r c i k h1 h2 hr W
  rw [show rV r = .agg #[.int .i64 r.frost, .int .i64 r.thaw, .int .i64 r.gain, .int .i64 r.full, .int .i64 r.ice, .int .i64 r.most, .int .i64 r.melt, .int .i64 r.rlow, .int .i64 r.rhigh, .int .i64 r.pull] from rfl] at hco hst hstp
  have hcl := courseS_len r (c, i) ks
  rw [hn.out] at hcl
  obtain ⟨⟨rs, x9, y9⟩, hcs⟩ : ∃ x, courseS r (c, i) ks = x := ⟨_, rfl⟩
  have hat := fun k h => course_at r (c, i) ks k h
  unfold CoursePost at hco
  rw [hcs] at hco hcl hat
  simp only at hco hcl hat
  rw [hcl] at hco
  have Hcl := Lib.hid hcl
  have Hcs := Lib.hid hcs
  have Hat := Lib.hid hat
  have HR : Aside (TROk r) := hr
  have HS : Aside (stIn r (c, i)) := hs
  unfold bV
  clear hx hlo hec her hb1t hcl hcs hat hr hs hall
  go_enter Try.func4, Try.ntmps4
  go_wp2_with fail
  refine (hlong _).mono ?_
  rintro e w0x ⟨rfl, rfl⟩
  go_wp2_with fail
  refine Calls.mono (hcp _ ?_) ?_
  · exact (by (try show Below _ _ _); repeat (first | (with_reducible refine Below.setCell ?_ (by first | omega | (simp <;> omega)) _) | (with_reducible refine Below.alloc ?_ (by first | omega | (simp <;> omega)) _) | (with_reducible refine Below.drew ?_) | (with_reducible exact Below.refl _ _) | (with_reducible refine below_call ?_ (by assumption) (by first | omega | (simp <;> omega))) | (with_reducible refine below_call ?_ (Drew.below (by assumption) _) (by first | omega | (simp <;> omega)))))
  rintro e w1 ⟨A1, c1, rfl, hc1, hc2, hE1, hb1⟩
  have hz1 := hb1.size
  simp only [World.size_alloc] at hz1
  have hE1' : Ints w1 0 A1 ks := (intL_at.1 hE1).mono (Nat.zero_le _)
  have hl0 : w.heap.size < w1.heap.size := by omega
  have hB1 : Below w.heap.size w w1 := (by (try show Below _ _ _); repeat (first | (with_reducible refine Below.setCell ?_ (by first | omega | (simp <;> omega)) _) | (with_reducible refine Below.alloc ?_ (by first | omega | (simp <;> omega)) _) | (with_reducible refine Below.drew ?_) | (with_reducible exact Below.refl _ _) | (with_reducible exact hb1) | (with_reducible refine below_call ?_ (by assumption) (by first | omega | (simp <;> omega))) | (with_reducible refine below_call ?_ (Drew.below (by assumption) _) (by first | omega | (simp <;> omega)))))
  have q0 := (hb1.cell (p := ⟨w.heap.size, 0, none⟩) (by show w.heap.size < _; simp)).trans (show _ = some (.int .i64 r.frost) by simp [go_sem])
  have q1 := (hb1.cell (p := ⟨w.heap.size, 1, none⟩) (by show w.heap.size < _; simp)).trans (show _ = some (.int .i64 r.thaw) by simp [go_sem])
  have q2 := (hb1.cell (p := ⟨w.heap.size, 2, none⟩) (by show w.heap.size < _; simp)).trans (show _ = some (.int .i64 r.gain) by simp [go_sem])
  have q3 := (hb1.cell (p := ⟨w.heap.size, 3, none⟩) (by show w.heap.size < _; simp)).trans (show _ = some (.int .i64 r.full) by simp [go_sem])
  have q4 := (hb1.cell (p := ⟨w.heap.size, 4, none⟩) (by show w.heap.size < _; simp)).trans (show _ = some (.int .i64 r.ice) by simp [go_sem])
  have q5 := (hb1.cell (p := ⟨w.heap.size, 5, none⟩) (by show w.heap.size < _; simp)).trans (show _ = some (.int .i64 r.most) by simp [go_sem])
  have q6 := (hb1.cell (p := ⟨w.heap.size, 6, none⟩) (by show w.heap.size < _; simp)).trans (show _ = some (.int .i64 r.melt) by simp [go_sem])
  have q7 := (hb1.cell (p := ⟨w.heap.size, 7, none⟩) (by show w.heap.size < _; simp)).trans (show _ = some (.int .i64 r.rlow) by simp [go_sem])
  have q8 := (hb1.cell (p := ⟨w.heap.size, 8, none⟩) (by show w.heap.size < _; simp)).trans (show _ = some (.int .i64 r.rhigh) by simp [go_sem])
  have q9 := (hb1.cell (p := ⟨w.heap.size, 9, none⟩) (by show w.heap.size < _; simp)).trans (show _ = some (.int .i64 r.pull) by simp [go_sem])
  have q10 := (hb1.cell (p := ⟨w.heap.size, 10, none⟩) (by show w.heap.size < _; simp)).trans (show _ = some (.int .i64 c) by simp [go_sem])
  have q11 := (hb1.cell (p := ⟨w.heap.size, 11, none⟩) (by show w.heap.size < _; simp)).trans (show _ = some (.int .i64 i) by simp [go_sem])
  clear hE1
  go_wp2_with fail
  refine Calls.mono (hco _ _ _ _ hE1') ?_
  rintro e w2 ⟨A2, c2, rfl, hv1, hv2, hv3, hE2, hb2⟩
  have hz2 := hb2.size
  have hB2 : Below w.heap.size w w2 := hB1.trans (hb2.mono (by omega))
  have hsm := fun W (h1 : Below w1.heap.size w1 W) (h : Below w.heap.size w W) => sameK_self 0 lo A1 c1 A n cc ks W (hE1'.below h1 (Nat.le_refl _)) (HX.below h (Nat.le_refl _)) hn hl
  go_wp2_with fail
  refine Calls.mono (hsm _ ?_ ?_) ?_
  · exact (hb2.alloc hz2 _)
  · exact (hB2.alloc (by omega) _)
  rintro e w3 ⟨rfl, hd3⟩
  have hb3 := hd3.below (w2.heap.size + 1)
  have hz3 := hb3.size
  simp only [World.size_alloc] at hz3
  have e0 := (hb3.cell (p := ⟨w2.heap.size, 0, none⟩) (by show w2.heap.size < _; omega)).trans (show _ = some (.int .i64 x9) by simp [go_sem])
  have e1 := (hb3.cell (p := ⟨w2.heap.size, 1, none⟩) (by show w2.heap.size < _; omega)).trans (show _ = some (.int .i64 y9) by simp [go_sem])
  have hT3 : Below w2.heap.size w2 w3 := ((Below.refl _ _).alloc (Nat.le_refl _) _).trans (hb3.mono (by omega))
  have hT13 : Below w1.heap.size w1 w3 := hb2.trans (hT3.mono hz2)
  replace q0 := (hT13.cell (p := ⟨w.heap.size, 0, none⟩) hl0).trans q0
  replace q1 := (hT13.cell (p := ⟨w.heap.size, 1, none⟩) hl0).trans q1
  replace q2 := (hT13.cell (p := ⟨w.heap.size, 2, none⟩) hl0).trans q2
  replace q3 := (hT13.cell (p := ⟨w.heap.size, 3, none⟩) hl0).trans q3
  replace q4 := (hT13.cell (p := ⟨w.heap.size, 4, none⟩) hl0).trans q4
  replace q5 := (hT13.cell (p := ⟨w.heap.size, 5, none⟩) hl0).trans q5
  replace q6 := (hT13.cell (p := ⟨w.heap.size, 6, none⟩) hl0).trans q6
  replace q7 := (hT13.cell (p := ⟨w.heap.size, 7, none⟩) hl0).trans q7
  replace q8 := (hT13.cell (p := ⟨w.heap.size, 8, none⟩) hl0).trans q8
  replace q9 := (hT13.cell (p := ⟨w.heap.size, 9, none⟩) hl0).trans q9
  replace q10 := (hT13.cell (p := ⟨w.heap.size, 10, none⟩) hl0).trans q10
  replace q11 := (hT13.cell (p := ⟨w.heap.size, 11, none⟩) hl0).trans q11
  clear hsm hd3 hT13 hb3
  have hl3 : w.heap.size < w3.heap.size := by omega
  go_wp2_with fail
  refine (hst _).mono ?_
  rintro e w4 ⟨rfl, hb4⟩
  have hz4 := hb4.size
  replace e0 := (hb4.cell (p := ⟨w2.heap.size, 0, none⟩) (by show w2.heap.size < _; omega)).trans e0
  replace e1 := (hb4.cell (p := ⟨w2.heap.size, 1, none⟩) (by show w2.heap.size < _; omega)).trans e1
  replace q0 := (hb4.cell (p := ⟨w.heap.size, 0, none⟩) hl3).trans q0
  replace q1 := (hb4.cell (p := ⟨w.heap.size, 1, none⟩) hl3).trans q1
  replace q2 := (hb4.cell (p := ⟨w.heap.size, 2, none⟩) hl3).trans q2
  replace q3 := (hb4.cell (p := ⟨w.heap.size, 3, none⟩) hl3).trans q3
  replace q4 := (hb4.cell (p := ⟨w.heap.size, 4, none⟩) hl3).trans q4
  replace q5 := (hb4.cell (p := ⟨w.heap.size, 5, none⟩) hl3).trans q5
  replace q6 := (hb4.cell (p := ⟨w.heap.size, 6, none⟩) hl3).trans q6
  replace q7 := (hb4.cell (p := ⟨w.heap.size, 7, none⟩) hl3).trans q7
  replace q8 := (hb4.cell (p := ⟨w.heap.size, 8, none⟩) hl3).trans q8
  replace q9 := (hb4.cell (p := ⟨w.heap.size, 9, none⟩) hl3).trans q9
  replace q10 := (hb4.cell (p := ⟨w.heap.size, 10, none⟩) hl3).trans q10
  replace q11 := (hb4.cell (p := ⟨w.heap.size, 11, none⟩) hl3).trans q11
  have hT4 : Below w2.heap.size w2 w4 := hT3.trans (hb4.mono (by omega))
  have hB4 : Below w.heap.size w w4 := hB2.trans (hT4.mono (by omega))
  have hl4 : w.heap.size < w4.heap.size := by omega
  have hl42 : w2.heap.size < w4.heap.size := by omega
  clear hT3 hb4
  go_wp2_with fail
  go_loopg [9, 10] (n) (fun gg v ii wr => ∃ k : Nat, k ≤ n ∧ n - k ≤ gg ∧ v = .int .i64 0 ∧ ii = .int .i64 k ∧ w4 = wr)
  case atStart => exact ⟨0, Nat.zero_le _, Nat.le_refl _, rfl, rfl, rfl⟩
  case round =>
    obtain ⟨k, hk, hg, rfl, rfl, rfl⟩ := hrel
    by_cases hlt : k < n
    · obtain ⟨bb, oo, hA, _, hlb, hcs⟩ := HX.out (by have := hn.out; omega)
      subst hA
      have e5 := (hB4.cell (p := ⟨bb, oo + k, none⟩) hlb).trans (hcs k (by have := hn.out; omega))
      have hkz : (k : Int) < (n : Int) := by omega
      have hk0 : (0 : Int) ≤ (k : Int) := by omega
      have hlbr : bb < w4.heap.size := by omega
      have hk2 : k < ks.length := by have := hn.out; omega
      have hpk : 1 ≤ ks[k]?.getD 0 ∧ ks[k]?.getD 0 ≤ 3 := hkr.out _ (by rw [List.getElem?_eq_getElem hk2]; exact List.getElem_mem _)
      clear hcs hk2
      generalize ks[k]?.getD 0 = kk at e5 hpk
      have h1 : ¬ kk < 1 := by omega
      have h2 : ¬ 3 < kk := by omega
      go_wp2
      go_roundg (n - (k + 1))
      case measure => omega
      case rel => exact ⟨k + 1, by omega, by omega, rfl, by go_num, rfl⟩
    · have hkz : ¬ (k : Int) < (n : Int) := by omega
      obtain rfl : k = n := by omega
      clear hg
      go_wp2_with fail
      go_upto_region 20 with (fail)
      have s0 : (w4.alloc (.cells #[.int .i64 c, .int .i64 i] 27)).cell? ⟨w4.heap.size, 0, none⟩ = some (.int .i64 c) := by simp [go_sem]
      have s1 : (w4.alloc (.cells #[.int .i64 c, .int .i64 i] 27)).cell? ⟨w4.heap.size, 1, none⟩ = some (.int .i64 i) := by simp [go_sem]
      have t0 : (w4.alloc (.cells #[.int .i64 c, .int .i64 i] 27)).frozen? ⟨w4.heap.size, 0, none⟩ = false := by simp [go_sem]
      have t1 : (w4.alloc (.cells #[.int .i64 c, .int .i64 i] 27)).frozen? ⟨w4.heap.size, 1, none⟩ = false := by simp [go_sem]
      have hT5 : Below w4.heap.size w4 (w4.alloc (.cells #[.int .i64 c, .int .i64 i] 27)) := (Below.refl _ _).alloc (Nat.le_refl _) _
      have hz5 : (w4.alloc (.cells #[.int .i64 c, .int .i64 i] 27)).heap.size = w4.heap.size + 1 := by simp
      generalize w4.alloc (.cells #[.int .i64 c, .int .i64 i] 27) = w5 at s0 s1 t0 t1 hT5 hz5 ⊢
      replace e0 := (hT5.cell (p := ⟨w2.heap.size, 0, none⟩) hl42).trans e0
      replace e1 := (hT5.cell (p := ⟨w2.heap.size, 1, none⟩) hl42).trans e1
      replace q0 := (hT5.cell (p := ⟨w.heap.size, 0, none⟩) hl4).trans q0
      replace q1 := (hT5.cell (p := ⟨w.heap.size, 1, none⟩) hl4).trans q1
      replace q2 := (hT5.cell (p := ⟨w.heap.size, 2, none⟩) hl4).trans q2
      replace q3 := (hT5.cell (p := ⟨w.heap.size, 3, none⟩) hl4).trans q3
      replace q4 := (hT5.cell (p := ⟨w.heap.size, 4, none⟩) hl4).trans q4
      replace q5 := (hT5.cell (p := ⟨w.heap.size, 5, none⟩) hl4).trans q5
      replace q6 := (hT5.cell (p := ⟨w.heap.size, 6, none⟩) hl4).trans q6
      replace q7 := (hT5.cell (p := ⟨w.heap.size, 7, none⟩) hl4).trans q7
      replace q8 := (hT5.cell (p := ⟨w.heap.size, 8, none⟩) hl4).trans q8
      replace q9 := (hT5.cell (p := ⟨w.heap.size, 9, none⟩) hl4).trans q9
      replace q10 := (hT5.cell (p := ⟨w.heap.size, 10, none⟩) hl4).trans q10
      replace q11 := (hT5.cell (p := ⟨w.heap.size, 11, none⟩) hl4).trans q11
      have hB5 : Aside (Below w.heap.size w w5) := hB4.trans (hT5.mono (by omega))
      have hT25 : Aside (Below w2.heap.size w2 w5) := hT4.trans (hT5.mono (by omega))
      have hE5 : Aside (Els Value.bool false w2 w1.heap.size A2 rs) := hE2
      have HQ := Lib.hid (And.intro q0 (And.intro q1 (And.intro q2 (And.intro q3 (And.intro q4 (And.intro q5 (And.intro q6 (And.intro q7 (And.intro q8 (And.intro q9 (And.intro e0 e1)))))))))))
      clear q0 q1 q2 q3 q4 q5 q6 q7 q8 q9 q10 q11 e0 e1 hE2 hT4 hT5 hB4
      go_wp2_with fail
      go_loopg [12] (k) (fun gg ii wr => ∃ (j : Nat) (x y : Int), j ≤ k ∧ k - j ≤ gg ∧ ii = .int .i64 j ∧ Aside ((courseS r (c, i) (ks.take j)).2 = (x, y)) ∧ Aside (w5.grownBy wr (some w4.heap.size)) ∧
          wr.cell? ⟨w4.heap.size, 0, none⟩ = some (.int .i64 x) ∧ wr.cell? ⟨w4.heap.size, 1, none⟩ = some (.int .i64 y) ∧ wr.frozen? ⟨w4.heap.size, 0, none⟩ = false ∧ wr.frozen? ⟨w4.heap.size, 1, none⟩ = false)
      case atStart => exact ⟨0, c, i, Nat.zero_le _, Nat.le_refl _, rfl, rfl, grown_refl _ _, s0, s1, t0, t1⟩
      case round =>
        clear s0 s1 t0 t1
        obtain ⟨j, x, y, hj, hg, rfl, hC, hG, s0, s1, t0, t1⟩ := hrel
        obtain ⟨q0, q1, q2, q3, q4, q5, q6, q7, q8, q9, e0, e1⟩ := HQ.out
        replace q0 := gcell hG.out q0 (by omega)
        replace q1 := gcell hG.out q1 (by omega)
        replace q2 := gcell hG.out q2 (by omega)
        replace q3 := gcell hG.out q3 (by omega)
        replace q4 := gcell hG.out q4 (by omega)
        replace q5 := gcell hG.out q5 (by omega)
        replace q6 := gcell hG.out q6 (by omega)
        replace q7 := gcell hG.out q7 (by omega)
        replace q8 := gcell hG.out q8 (by omega)
        replace q9 := gcell hG.out q9 (by omega)
        replace e0 := gcell hG.out e0 (by omega)
        replace e1 := gcell hG.out e1 (by omega)
        have hgs := hG.out.size
        have hl5 : w.heap.size < wr.heap.size := by omega
        have hl6 : w4.heap.size < wr.heap.size := by omega
        by_cases hlt : j < k
        · obtain ⟨bb, oo, hA, _, hlb, hcs⟩ := HX.out (by have := hn.out; omega)
          subst hA
          have hk2 : j < ks.length := by have := hn.out; omega
          have e5 := gcell hG.out ((hB5.out.cell (p := ⟨bb, oo + j, none⟩) hlb).trans (hcs j hk2)) (by omega)
          obtain ⟨ba, oa, hA2, _, hla, hca⟩ := hE5.out (by rw [Hcl.out]; omega)
          subst hA2
          have e6 := gcell hG.out ((hT25.out.cell (p := ⟨ba, oa + j, none⟩) hla).trans (hca j (by rw [Hcl.out]; omega))) (by omega)
          have hat := Hat.out j hk2
          rw [hC.out] at hat
          rw [hat] at e6
          have hst2 : stIn r (x, y) := by have := courseS_in HR.out HS.out (ks.take j); rwa [hC.out] at this
          have hsn : (courseS r (c, i) (ks.take (j + 1))).2 = (stepT r (x, y) (ks[j]?.getD 0)).1 := by
            rw [List.take_succ_eq_append_getElem hk2, courseS_snoc, hC.out, List.getElem?_eq_getElem hk2]; rfl
          have hkk : 1 ≤ ks[j]?.getD 0 ∧ ks[j]?.getD 0 ≤ 3 := hkr.out _ (by rw [List.getElem?_eq_getElem hk2]; exact List.getElem_mem _)
          clear hat hcs hca
          generalize ks[j]?.getD 0 = kk at e5 e6 hsn hkk
          have hstep := hstp x y kk hkk hst2
          rcases hsr : stepT r (x, y) kk with ⟨⟨x2, y2⟩, ran⟩
          rw [hsr] at hstep hsn e6
          simp only [sV] at hstep hsn e6
          have Hsn := Lib.hid hsn
          clear hsn hsr hst2 hkk
          have hltz : (j : Int) < (k : Int) := by omega
          have hj0 : (0 : Int) ≤ (j : Int) := by omega
          have hlbr : bb < wr.heap.size := by have := hB5.out.size; omega
          have hlar : ba < wr.heap.size := by omega
          have hAll : Aside (∀ W, Below wr.heap.size wr W → (Below wr.heap.size wr W ∧ W.cell? ⟨bb, oo + j, none⟩ = some (.int .i64 kk) ∧ W.cell? ⟨w4.heap.size, 0, none⟩ = some (.int .i64 x) ∧ W.cell? ⟨w4.heap.size, 1, none⟩ = some (.int .i64 y)
             ∧ W.cell? ⟨w.heap.size, 0, none⟩ = some (.int .i64 r.frost)
             ∧ W.cell? ⟨w.heap.size, 1, none⟩ = some (.int .i64 r.thaw)
             ∧ W.cell? ⟨w.heap.size, 2, none⟩ = some (.int .i64 r.gain)
             ∧ W.cell? ⟨w.heap.size, 3, none⟩ = some (.int .i64 r.full)
             ∧ W.cell? ⟨w.heap.size, 4, none⟩ = some (.int .i64 r.ice)
             ∧ W.cell? ⟨w.heap.size, 5, none⟩ = some (.int .i64 r.most)
             ∧ W.cell? ⟨w.heap.size, 6, none⟩ = some (.int .i64 r.melt)
             ∧ W.cell? ⟨w.heap.size, 7, none⟩ = some (.int .i64 r.rlow)
             ∧ W.cell? ⟨w.heap.size, 8, none⟩ = some (.int .i64 r.rhigh)
             ∧ W.cell? ⟨w.heap.size, 9, none⟩ = some (.int .i64 r.pull)
             )) := fun W h => ⟨h, (h.cell (p := ⟨bb, oo + j, none⟩) hlbr).trans e5, (h.cell (p := ⟨w4.heap.size, 0, none⟩) hl6).trans s0, (h.cell (p := ⟨w4.heap.size, 1, none⟩) hl6).trans s1
             , (h.cell (p := ⟨w.heap.size, 0, none⟩) hl5).trans q0
             , (h.cell (p := ⟨w.heap.size, 1, none⟩) hl5).trans q1
             , (h.cell (p := ⟨w.heap.size, 2, none⟩) hl5).trans q2
             , (h.cell (p := ⟨w.heap.size, 3, none⟩) hl5).trans q3
             , (h.cell (p := ⟨w.heap.size, 4, none⟩) hl5).trans q4
             , (h.cell (p := ⟨w.heap.size, 5, none⟩) hl5).trans q5
             , (h.cell (p := ⟨w.heap.size, 6, none⟩) hl5).trans q6
             , (h.cell (p := ⟨w.heap.size, 7, none⟩) hl5).trans q7
             , (h.cell (p := ⟨w.heap.size, 8, none⟩) hl5).trans q8
             , (h.cell (p := ⟨w.heap.size, 9, none⟩) hl5).trans q9
             ⟩
          cases ran with
          | false =>
            simp only [Bool.false_eq_true, if_false] at hstep
            go_wp2_with fail
            refine wp_region_held_drew (S := fun W => Below wr.heap.size wr W ∧ W.cell? ⟨bb, oo + j, none⟩ = some (.int .i64 kk) ∧ W.cell? ⟨w4.heap.size, 0, none⟩ = some (.int .i64 x) ∧ W.cell? ⟨w4.heap.size, 1, none⟩ = some (.int .i64 y)
               ∧ W.cell? ⟨w.heap.size, 0, none⟩ = some (.int .i64 r.frost)
               ∧ W.cell? ⟨w.heap.size, 1, none⟩ = some (.int .i64 r.thaw)
               ∧ W.cell? ⟨w.heap.size, 2, none⟩ = some (.int .i64 r.gain)
               ∧ W.cell? ⟨w.heap.size, 3, none⟩ = some (.int .i64 r.full)
               ∧ W.cell? ⟨w.heap.size, 4, none⟩ = some (.int .i64 r.ice)
               ∧ W.cell? ⟨w.heap.size, 5, none⟩ = some (.int .i64 r.most)
               ∧ W.cell? ⟨w.heap.size, 6, none⟩ = some (.int .i64 r.melt)
               ∧ W.cell? ⟨w.heap.size, 7, none⟩ = some (.int .i64 r.rlow)
               ∧ W.cell? ⟨w.heap.size, 8, none⟩ = some (.int .i64 r.rhigh)
               ∧ W.cell? ⟨w.heap.size, 9, none⟩ = some (.int .i64 r.pull)
               ) (by kernel_rfl) (hAll.out _ ((Below.refl _ _).drew)) (fun hS0 => ?_)
            (try go_simp)
            refine wpAnyH_take (i := 0) (v := ?_) rfl (by kernel_rfl) (by kernel_rfl) (by kernel_rfl) (fun _ _ _ h => h) (Or.inl ⟨by rfl, ?_⟩) hS0 ?_
            rotate_left
            · (intro W hSw; (try dsimp only at hSw); go_split_ands; go_simp; (try with_reducible rfl))
            (try go_simp)
            (try go_simp)
            refine wpAnyH_take (i := 1) (v := ?_) rfl (by kernel_rfl) (by kernel_rfl) (by kernel_rfl) (fun _ _ _ h => h) (Or.inl ⟨by rfl, ?_⟩) hS0 ?_
            rotate_left
            · (intro W hSw; (try dsimp only at hSw); go_split_ands; go_simp; (try with_reducible rfl))
            (try go_simp)
            (try go_simp)
            refine wpAnyH_take (i := 2) (v := ?_) rfl (by kernel_rfl) (by kernel_rfl) (by kernel_rfl) (fun _ _ _ h => h) (Or.inl ⟨by rfl, ?_⟩) hS0 ?_
            rotate_left
            · (intro W hSw; (try dsimp only at hSw); go_split_ands; go_simp; (try with_reducible rfl))
            (try go_simp)
            (try go_simp)
            refine wpAnyH_take (i := 3) (v := ?_) rfl (by kernel_rfl) (by kernel_rfl) (by kernel_rfl) (fun _ _ _ h => h) (Or.inl ⟨by rfl, ?_⟩) hS0 ?_
            rotate_left
            · (intro W hSw; (try dsimp only at hSw); go_split_ands; go_simp; (try with_reducible rfl))
            (try go_simp)
            (try go_simp)
            refine wpAnyH_take (i := 4) (v := ?_) rfl (by kernel_rfl) (by kernel_rfl) (by kernel_rfl) (fun _ _ _ h => h) (Or.inl ⟨by rfl, ?_⟩) hS0 ?_
            rotate_left
            · (intro W hSw; (try dsimp only at hSw); go_split_ands; go_simp; (try with_reducible rfl))
            (try go_simp)
            (try go_simp)
            refine wpAnyH_take (i := 5) (v := ?_) rfl (by kernel_rfl) (by kernel_rfl) (by kernel_rfl) (fun _ _ _ h => h) (Or.inl ⟨by rfl, ?_⟩) hS0 ?_
            rotate_left
            · (intro W hSw; (try dsimp only at hSw); go_split_ands; go_simp; (try with_reducible rfl))
            (try go_simp)
            (try go_simp)
            refine wpAnyH_take (i := 6) (v := ?_) rfl (by kernel_rfl) (by kernel_rfl) (by kernel_rfl) (fun _ _ _ h => h) (Or.inl ⟨by rfl, ?_⟩) hS0 ?_
            rotate_left
            · (intro W hSw; (try dsimp only at hSw); go_split_ands; go_simp; (try with_reducible rfl))
            (try go_simp)
            refine wpAnyH_ready (rs := [7, 11]) (by kernel_rfl) (by simp) ?_
            refine (AllReadyH.cons rfl (fun K hK => ?_) (AllReadyH.cons rfl (fun K hK => ?_) AllReadyH.nil))
            · go_simp
              go_wp2_with (go_at_call 28; refine Calls.mono (hstep _) ?_; rintro e w6 ⟨rfl, hb6⟩; have hT6 : Below wr.heap.size wr w6 := below_call ((Below.refl _ _).drew) hb6 (Nat.le_refl _))
              refine hK.out _ _ (hAll.out _ hT6) (fun hS1 => ?_)
              clear hK K
              (try go_simp)
              (try go_simp)
              refine wpAnyH_take (i := 8) (v := ?_) rfl (by kernel_rfl) (by kernel_rfl) (by kernel_rfl) (fun _ _ _ h => h) (Or.inl ⟨by rfl, ?_⟩) hS1 ?_
              rotate_left
              · (intro W hSw; (try dsimp only at hSw); go_split_ands; go_simp; (try with_reducible rfl))
              (try go_simp)
              (try go_simp)
              refine wpAnyH_take (i := 9) (v := ?_) rfl (by kernel_rfl) (by kernel_rfl) (by kernel_rfl) (fun _ _ _ h => h) (Or.inl ⟨by rfl, ?_⟩) hS1 ?_
              rotate_left
              · (intro W hSw; (try dsimp only at hSw); go_split_ands; go_simp; (try with_reducible rfl))
              (try go_simp)
              (try go_simp)
              refine wpAnyH_take (i := 10) (v := ?_) rfl (by kernel_rfl) (by kernel_rfl) (by kernel_rfl) (fun _ _ _ h => h) (Or.inl ⟨by rfl, ?_⟩) hS1 ?_
              rotate_left
              · (intro W hSw; (try dsimp only at hSw); go_split_ands; go_simp; (try with_reducible rfl))
              (try go_simp)
              refine wpAnyH_ready (rs := [11]) (by kernel_rfl) (by simp) ?_
              refine (AllReadyH.cons rfl (fun K hK => ?_) AllReadyH.nil)
              go_simp
              refine hK.out _ _ (hAll.out _ (hT6.alloc hT6.size _)) (fun hS2 => ?_)
              clear hK K
              (try go_simp)
              refine wpAnyH_ready (rs := [12]) (by kernel_rfl) (by simp) ?_
              refine (AllReadyH.cons rfl (fun K hK => ?_) AllReadyH.nil)
              go_simp
              refine hK.out _ _ (hAll.out _ (by have := hT6.size; repeat (first | (with_reducible assumption) | (with_reducible refine Below.alloc ?_ (by first | omega | (simp <;> omega)) _) | (with_reducible refine Below.setCell ?_ (by first | omega | (simp <;> omega)) _)))) (fun hS3 => ?_)
              clear hK K
              (try go_simp)
              (try go_simp)
              refine wpAnyH_take (i := 13) (v := ?_) rfl (by kernel_rfl) (by kernel_rfl) (by kernel_rfl) (fun _ _ _ h => h) (Or.inl ⟨by rfl, ?_⟩) hS3 ?_
              rotate_left
              · (intro W hSw; (try dsimp only at hSw); go_split_ands; go_simp; (try with_reducible rfl))
              (try go_simp)
              refine wpAnyH_done (by kernel_rfl) ?_ _
              have hz6 := hT6.size
              have e6' := (hT6.cell (p := ⟨ba, oa + j, none⟩) hlar).trans e6
              have s0' := (hT6.cell (p := ⟨w4.heap.size, 0, none⟩) hl6).trans s0
              have s1' := (hT6.cell (p := ⟨w4.heap.size, 1, none⟩) hl6).trans s1
              have t0' := (hT6.frozen (p := ⟨w4.heap.size, 0, none⟩) hl6).trans t0
              have t1' := (hT6.frozen (p := ⟨w4.heap.size, 1, none⟩) hl6).trans t1
              have hl7 : w4.heap.size < w6.heap.size := by omega
              have hl8 : ba < w6.heap.size := by omega
              have hG6 := grown_below hG.out (hT6.mono hgs)
              clear hS1 hS2 hS3 hb6 hT6 hS0
              go_wp2
              go_roundg (k - (j + 1))
              case measure => omega
              case rel => exact ⟨j + 1, x2, y2, by omega, by omega, by go_num, Hsn.out, (grown_al (grown_st (grown_st hG6 _ _ _ (Or.inr rfl)) _ _ _ (Or.inr rfl)) _), by simp [go_sem, s0', s1', hl7], by simp [go_sem, s0', s1', hl7], by simp [go_sem, t0', t1', hl7], by simp [go_sem, t0', t1', hl7]⟩
            · go_simp
              refine hK.out _ _ (hAll.out _ (((Below.refl _ _).drew).alloc (Nat.le_refl _) _)) (fun hS1 => ?_)
              clear hK K
              (try go_simp)
              refine wpAnyH_ready (rs := [7]) (by kernel_rfl) (by simp) ?_
              refine (AllReadyH.cons rfl (fun K hK => ?_) AllReadyH.nil)
              go_simp
              go_wp2_with (go_at_call 28; refine Calls.mono (hstep _) ?_; rintro e w6 ⟨rfl, hb6⟩; have hT6 : Below wr.heap.size wr w6 := below_call (((Below.refl _ _).drew).alloc (Nat.le_refl _) _) hb6 (by simp))
              have u0 := (hb6.cell (p := ⟨wr.heap.size, 0, none⟩) (by show wr.heap.size < _; simp)).trans (show _ = some (.int .i64 0) by simp [go_sem])
              have u1 := (hb6.cell (p := ⟨wr.heap.size, 1, none⟩) (by show wr.heap.size < _; simp)).trans (show _ = some (.int .i64 0) by simp [go_sem])
              have v0 := (hb6.frozen (p := ⟨wr.heap.size, 0, none⟩) (by show wr.heap.size < _; simp)).trans (show _ = false by simp [go_sem])
              have v1 := (hb6.frozen (p := ⟨wr.heap.size, 1, none⟩) (by show wr.heap.size < _; simp)).trans (show _ = false by simp [go_sem])
              have hz6 := hb6.size
              simp only [World.size_alloc, World.size_drew] at hz6
              refine hK.out _ _ (hAll.out _ hT6) (fun hS2 => ?_)
              clear hK K
              (try go_simp)
              (try go_simp)
              refine wpAnyH_take (i := 8) (v := ?_) rfl (by kernel_rfl) (by kernel_rfl) (by kernel_rfl) (fun _ _ _ h => h) (Or.inl ⟨by rfl, ?_⟩) hS2 ?_
              rotate_left
              · (intro W hSw; (try dsimp only at hSw); go_split_ands; go_simp; (try with_reducible rfl))
              (try go_simp)
              (try go_simp)
              refine wpAnyH_take (i := 9) (v := ?_) rfl (by kernel_rfl) (by kernel_rfl) (by kernel_rfl) (fun _ _ _ h => h) (Or.inl ⟨by rfl, ?_⟩) hS2 ?_
              rotate_left
              · (intro W hSw; (try dsimp only at hSw); go_split_ands; go_simp; (try with_reducible rfl))
              (try go_simp)
              (try go_simp)
              refine wpAnyH_take (i := 10) (v := ?_) rfl (by kernel_rfl) (by kernel_rfl) (by kernel_rfl) (fun _ _ _ h => h) (Or.inl ⟨by rfl, ?_⟩) hS2 ?_
              rotate_left
              · (intro W hSw; (try dsimp only at hSw); go_split_ands; go_simp; (try with_reducible rfl))
              (try go_simp)
              refine wpAnyH_ready (rs := [12]) (by kernel_rfl) (by simp) ?_
              refine (AllReadyH.cons rfl (fun K hK => ?_) AllReadyH.nil)
              go_simp
              refine hK.out _ _ (hAll.out _ (by have := hT6.size; repeat (first | (with_reducible assumption) | (with_reducible refine Below.setCell ?_ (by first | omega | (simp <;> omega)) _)))) (fun hS3 => ?_)
              clear hK K
              (try go_simp)
              (try go_simp)
              refine wpAnyH_take (i := 13) (v := ?_) rfl (by kernel_rfl) (by kernel_rfl) (by kernel_rfl) (fun _ _ _ h => h) (Or.inl ⟨by rfl, ?_⟩) hS3 ?_
              rotate_left
              · (intro W hSw; (try dsimp only at hSw); go_split_ands; go_simp; (try with_reducible rfl))
              (try go_simp)
              refine wpAnyH_done (by kernel_rfl) ?_ _
              have e6' := (hT6.cell (p := ⟨ba, oa + j, none⟩) hlar).trans e6
              have s0' := (hT6.cell (p := ⟨w4.heap.size, 0, none⟩) hl6).trans s0
              have s1' := (hT6.cell (p := ⟨w4.heap.size, 1, none⟩) hl6).trans s1
              have t0' := (hT6.frozen (p := ⟨w4.heap.size, 0, none⟩) hl6).trans t0
              have t1' := (hT6.frozen (p := ⟨w4.heap.size, 1, none⟩) hl6).trans t1
              have hl7 : w4.heap.size < w6.heap.size := by omega
              have hl8 : ba < w6.heap.size := by omega
              have hl9 : wr.heap.size < w6.heap.size := by omega
              have hne1 : ba ≠ wr.heap.size := by omega
              have hne2 : w4.heap.size ≠ wr.heap.size := by omega
              have hG6 := grown_below hG.out (hT6.mono hgs)
              clear hS1 hS2 hS3 hb6 hT6 hS0
              go_wp2
              go_roundg (k - (j + 1))
              case measure => omega
              case rel => exact ⟨j + 1, x2, y2, by omega, by omega, by go_num, Hsn.out, (grown_st (grown_st (grown_st (grown_st hG6 _ _ _ (Or.inl hgs)) _ _ _ (Or.inl hgs)) _ _ _ (Or.inr rfl)) _ _ _ (Or.inr rfl)), by simp [go_sem, s0', s1', hl7, hne2], by simp [go_sem, s0', s1', hl7, hne2], by simp [go_sem, t0', t1', hl7, hne2], by simp [go_sem, t0', t1', hl7, hne2]⟩
          | true =>
            simp only [if_true] at hstep
            go_wp2_with fail
            refine wp_region_held_drew (S := fun W => Below wr.heap.size wr W ∧ W.cell? ⟨bb, oo + j, none⟩ = some (.int .i64 kk) ∧ W.cell? ⟨w4.heap.size, 0, none⟩ = some (.int .i64 x) ∧ W.cell? ⟨w4.heap.size, 1, none⟩ = some (.int .i64 y)
               ∧ W.cell? ⟨w.heap.size, 0, none⟩ = some (.int .i64 r.frost)
               ∧ W.cell? ⟨w.heap.size, 1, none⟩ = some (.int .i64 r.thaw)
               ∧ W.cell? ⟨w.heap.size, 2, none⟩ = some (.int .i64 r.gain)
               ∧ W.cell? ⟨w.heap.size, 3, none⟩ = some (.int .i64 r.full)
               ∧ W.cell? ⟨w.heap.size, 4, none⟩ = some (.int .i64 r.ice)
               ∧ W.cell? ⟨w.heap.size, 5, none⟩ = some (.int .i64 r.most)
               ∧ W.cell? ⟨w.heap.size, 6, none⟩ = some (.int .i64 r.melt)
               ∧ W.cell? ⟨w.heap.size, 7, none⟩ = some (.int .i64 r.rlow)
               ∧ W.cell? ⟨w.heap.size, 8, none⟩ = some (.int .i64 r.rhigh)
               ∧ W.cell? ⟨w.heap.size, 9, none⟩ = some (.int .i64 r.pull)
               ) (by kernel_rfl) (hAll.out _ ((Below.refl _ _).drew)) (fun hS0 => ?_)
            (try go_simp)
            refine wpAnyH_take (i := 0) (v := ?_) rfl (by kernel_rfl) (by kernel_rfl) (by kernel_rfl) (fun _ _ _ h => h) (Or.inl ⟨by rfl, ?_⟩) hS0 ?_
            rotate_left
            · (intro W hSw; (try dsimp only at hSw); go_split_ands; go_simp; (try with_reducible rfl))
            (try go_simp)
            (try go_simp)
            refine wpAnyH_take (i := 1) (v := ?_) rfl (by kernel_rfl) (by kernel_rfl) (by kernel_rfl) (fun _ _ _ h => h) (Or.inl ⟨by rfl, ?_⟩) hS0 ?_
            rotate_left
            · (intro W hSw; (try dsimp only at hSw); go_split_ands; go_simp; (try with_reducible rfl))
            (try go_simp)
            (try go_simp)
            refine wpAnyH_take (i := 2) (v := ?_) rfl (by kernel_rfl) (by kernel_rfl) (by kernel_rfl) (fun _ _ _ h => h) (Or.inl ⟨by rfl, ?_⟩) hS0 ?_
            rotate_left
            · (intro W hSw; (try dsimp only at hSw); go_split_ands; go_simp; (try with_reducible rfl))
            (try go_simp)
            (try go_simp)
            refine wpAnyH_take (i := 3) (v := ?_) rfl (by kernel_rfl) (by kernel_rfl) (by kernel_rfl) (fun _ _ _ h => h) (Or.inl ⟨by rfl, ?_⟩) hS0 ?_
            rotate_left
            · (intro W hSw; (try dsimp only at hSw); go_split_ands; go_simp; (try with_reducible rfl))
            (try go_simp)
            (try go_simp)
            refine wpAnyH_take (i := 4) (v := ?_) rfl (by kernel_rfl) (by kernel_rfl) (by kernel_rfl) (fun _ _ _ h => h) (Or.inl ⟨by rfl, ?_⟩) hS0 ?_
            rotate_left
            · (intro W hSw; (try dsimp only at hSw); go_split_ands; go_simp; (try with_reducible rfl))
            (try go_simp)
            (try go_simp)
            refine wpAnyH_take (i := 5) (v := ?_) rfl (by kernel_rfl) (by kernel_rfl) (by kernel_rfl) (fun _ _ _ h => h) (Or.inl ⟨by rfl, ?_⟩) hS0 ?_
            rotate_left
            · (intro W hSw; (try dsimp only at hSw); go_split_ands; go_simp; (try with_reducible rfl))
            (try go_simp)
            (try go_simp)
            refine wpAnyH_take (i := 6) (v := ?_) rfl (by kernel_rfl) (by kernel_rfl) (by kernel_rfl) (fun _ _ _ h => h) (Or.inl ⟨by rfl, ?_⟩) hS0 ?_
            rotate_left
            · (intro W hSw; (try dsimp only at hSw); go_split_ands; go_simp; (try with_reducible rfl))
            (try go_simp)
            refine wpAnyH_ready (rs := [7, 11]) (by kernel_rfl) (by simp) ?_
            refine (AllReadyH.cons rfl (fun K hK => ?_) (AllReadyH.cons rfl (fun K hK => ?_) AllReadyH.nil))
            · go_simp
              go_wp2_with (go_at_call 28; refine Calls.mono (hstep _) ?_; rintro e w6 ⟨rfl, hb6⟩; have hT6 : Below wr.heap.size wr w6 := below_call ((Below.refl _ _).drew) hb6 (Nat.le_refl _))
              refine hK.out _ _ (hAll.out _ hT6) (fun hS1 => ?_)
              clear hK K
              (try go_simp)
              (try go_simp)
              refine wpAnyH_take (i := 8) (v := ?_) rfl (by kernel_rfl) (by kernel_rfl) (by kernel_rfl) (fun _ _ _ h => h) (Or.inl ⟨by rfl, ?_⟩) hS1 ?_
              rotate_left
              · (intro W hSw; (try dsimp only at hSw); go_split_ands; go_simp; (try with_reducible rfl))
              (try go_simp)
              (try go_simp)
              refine wpAnyH_take (i := 9) (v := ?_) rfl (by kernel_rfl) (by kernel_rfl) (by kernel_rfl) (fun _ _ _ h => h) (Or.inl ⟨by rfl, ?_⟩) hS1 ?_
              rotate_left
              · (intro W hSw; (try dsimp only at hSw); go_split_ands; go_simp; (try with_reducible rfl))
              (try go_simp)
              (try go_simp)
              refine wpAnyH_take (i := 10) (v := ?_) rfl (by kernel_rfl) (by kernel_rfl) (by kernel_rfl) (fun _ _ _ h => h) (Or.inl ⟨by rfl, ?_⟩) hS1 ?_
              rotate_left
              · (intro W hSw; (try dsimp only at hSw); go_split_ands; go_simp; (try with_reducible rfl))
              (try go_simp)
              refine wpAnyH_ready (rs := [11]) (by kernel_rfl) (by simp) ?_
              refine (AllReadyH.cons rfl (fun K hK => ?_) AllReadyH.nil)
              go_simp
              refine hK.out _ _ (hAll.out _ (hT6.alloc hT6.size _)) (fun hS2 => ?_)
              clear hK K
              (try go_simp)
              refine wpAnyH_ready (rs := [12]) (by kernel_rfl) (by simp) ?_
              refine (AllReadyH.cons rfl (fun K hK => ?_) AllReadyH.nil)
              go_simp
              refine hK.out _ _ (hAll.out _ (by have := hT6.size; repeat (first | (with_reducible assumption) | (with_reducible refine Below.alloc ?_ (by first | omega | (simp <;> omega)) _) | (with_reducible refine Below.setCell ?_ (by first | omega | (simp <;> omega)) _)))) (fun hS3 => ?_)
              clear hK K
              (try go_simp)
              (try go_simp)
              refine wpAnyH_take (i := 13) (v := ?_) rfl (by kernel_rfl) (by kernel_rfl) (by kernel_rfl) (fun _ _ _ h => h) (Or.inl ⟨by rfl, ?_⟩) hS3 ?_
              rotate_left
              · (intro W hSw; (try dsimp only at hSw); go_split_ands; go_simp; (try with_reducible rfl))
              (try go_simp)
              refine wpAnyH_done (by kernel_rfl) ?_ _
              have hz6 := hT6.size
              have e6' := (hT6.cell (p := ⟨ba, oa + j, none⟩) hlar).trans e6
              have s0' := (hT6.cell (p := ⟨w4.heap.size, 0, none⟩) hl6).trans s0
              have s1' := (hT6.cell (p := ⟨w4.heap.size, 1, none⟩) hl6).trans s1
              have t0' := (hT6.frozen (p := ⟨w4.heap.size, 0, none⟩) hl6).trans t0
              have t1' := (hT6.frozen (p := ⟨w4.heap.size, 1, none⟩) hl6).trans t1
              have hl7 : w4.heap.size < w6.heap.size := by omega
              have hl8 : ba < w6.heap.size := by omega
              have hG6 := grown_below hG.out (hT6.mono hgs)
              clear hS1 hS2 hS3 hb6 hT6 hS0
              go_wp2
              go_roundg (k - (j + 1))
              case measure => omega
              case rel => exact ⟨j + 1, x2, y2, by omega, by omega, by go_num, Hsn.out, (grown_al (grown_st (grown_st hG6 _ _ _ (Or.inr rfl)) _ _ _ (Or.inr rfl)) _), by simp [go_sem, s0', s1', hl7], by simp [go_sem, s0', s1', hl7], by simp [go_sem, t0', t1', hl7], by simp [go_sem, t0', t1', hl7]⟩
            · go_simp
              refine hK.out _ _ (hAll.out _ (((Below.refl _ _).drew).alloc (Nat.le_refl _) _)) (fun hS1 => ?_)
              clear hK K
              (try go_simp)
              refine wpAnyH_ready (rs := [7]) (by kernel_rfl) (by simp) ?_
              refine (AllReadyH.cons rfl (fun K hK => ?_) AllReadyH.nil)
              go_simp
              go_wp2_with (go_at_call 28; refine Calls.mono (hstep _) ?_; rintro e w6 ⟨rfl, hb6⟩; have hT6 : Below wr.heap.size wr w6 := below_call (((Below.refl _ _).drew).alloc (Nat.le_refl _) _) hb6 (by simp))
              have u0 := (hb6.cell (p := ⟨wr.heap.size, 0, none⟩) (by show wr.heap.size < _; simp)).trans (show _ = some (.int .i64 0) by simp [go_sem])
              have u1 := (hb6.cell (p := ⟨wr.heap.size, 1, none⟩) (by show wr.heap.size < _; simp)).trans (show _ = some (.int .i64 0) by simp [go_sem])
              have v0 := (hb6.frozen (p := ⟨wr.heap.size, 0, none⟩) (by show wr.heap.size < _; simp)).trans (show _ = false by simp [go_sem])
              have v1 := (hb6.frozen (p := ⟨wr.heap.size, 1, none⟩) (by show wr.heap.size < _; simp)).trans (show _ = false by simp [go_sem])
              have hz6 := hb6.size
              simp only [World.size_alloc, World.size_drew] at hz6
              refine hK.out _ _ (hAll.out _ hT6) (fun hS2 => ?_)
              clear hK K
              (try go_simp)
              (try go_simp)
              refine wpAnyH_take (i := 8) (v := ?_) rfl (by kernel_rfl) (by kernel_rfl) (by kernel_rfl) (fun _ _ _ h => h) (Or.inl ⟨by rfl, ?_⟩) hS2 ?_
              rotate_left
              · (intro W hSw; (try dsimp only at hSw); go_split_ands; go_simp; (try with_reducible rfl))
              (try go_simp)
              (try go_simp)
              refine wpAnyH_take (i := 9) (v := ?_) rfl (by kernel_rfl) (by kernel_rfl) (by kernel_rfl) (fun _ _ _ h => h) (Or.inl ⟨by rfl, ?_⟩) hS2 ?_
              rotate_left
              · (intro W hSw; (try dsimp only at hSw); go_split_ands; go_simp; (try with_reducible rfl))
              (try go_simp)
              (try go_simp)
              refine wpAnyH_take (i := 10) (v := ?_) rfl (by kernel_rfl) (by kernel_rfl) (by kernel_rfl) (fun _ _ _ h => h) (Or.inl ⟨by rfl, ?_⟩) hS2 ?_
              rotate_left
              · (intro W hSw; (try dsimp only at hSw); go_split_ands; go_simp; (try with_reducible rfl))
              (try go_simp)
              refine wpAnyH_ready (rs := [12]) (by kernel_rfl) (by simp) ?_
              refine (AllReadyH.cons rfl (fun K hK => ?_) AllReadyH.nil)
              go_simp
              refine hK.out _ _ (hAll.out _ (by have := hT6.size; repeat (first | (with_reducible assumption) | (with_reducible refine Below.setCell ?_ (by first | omega | (simp <;> omega)) _)))) (fun hS3 => ?_)
              clear hK K
              (try go_simp)
              (try go_simp)
              refine wpAnyH_take (i := 13) (v := ?_) rfl (by kernel_rfl) (by kernel_rfl) (by kernel_rfl) (fun _ _ _ h => h) (Or.inl ⟨by rfl, ?_⟩) hS3 ?_
              rotate_left
              · (intro W hSw; (try dsimp only at hSw); go_split_ands; go_simp; (try with_reducible rfl))
              (try go_simp)
              refine wpAnyH_done (by kernel_rfl) ?_ _
              have e6' := (hT6.cell (p := ⟨ba, oa + j, none⟩) hlar).trans e6
              have s0' := (hT6.cell (p := ⟨w4.heap.size, 0, none⟩) hl6).trans s0
              have s1' := (hT6.cell (p := ⟨w4.heap.size, 1, none⟩) hl6).trans s1
              have t0' := (hT6.frozen (p := ⟨w4.heap.size, 0, none⟩) hl6).trans t0
              have t1' := (hT6.frozen (p := ⟨w4.heap.size, 1, none⟩) hl6).trans t1
              have hl7 : w4.heap.size < w6.heap.size := by omega
              have hl8 : ba < w6.heap.size := by omega
              have hl9 : wr.heap.size < w6.heap.size := by omega
              have hne1 : ba ≠ wr.heap.size := by omega
              have hne2 : w4.heap.size ≠ wr.heap.size := by omega
              have hG6 := grown_below hG.out (hT6.mono hgs)
              clear hS1 hS2 hS3 hb6 hT6 hS0
              go_wp2
              go_roundg (k - (j + 1))
              case measure => omega
              case rel => exact ⟨j + 1, x2, y2, by omega, by omega, by go_num, Hsn.out, (grown_st (grown_st (grown_st (grown_st hG6 _ _ _ (Or.inl hgs)) _ _ _ (Or.inl hgs)) _ _ _ (Or.inr rfl)) _ _ _ (Or.inr rfl)), by simp [go_sem, s0', s1', hl7, hne2], by simp [go_sem, s0', s1', hl7, hne2], by simp [go_sem, t0', t1', hl7, hne2], by simp [go_sem, t0', t1', hl7, hne2]⟩
        · have hltz : ¬ (j : Int) < (k : Int) := by omega
          obtain rfl : j = k := by omega
          have htk : ks.take j = ks := List.take_of_length_le (by have := hn.out; omega)
          have hC2 := hC.out
          rw [htk, Hcs.out] at hC2
          obtain ⟨rfl, rfl⟩ := Prod.mk.inj hC2
          clear hC2 htk
          go_wp2_with fail
          refine (hkn _).mono ?_
          rintro e w9 ⟨rfl, hb9⟩
          go_wp2
          go_ret
          exact ⟨rfl, (hB5.out.trans (grown_bel hG.out (by omega) (by have := hB5.out.size; omega))).trans (hb9.mono (by omega))⟩

theorem courses_law (r : TR) (c i : Int) (lo : Nat) (A : Option Addr) (n cc : Nat) (ks : List Int) (w : World) (hx : Ints w lo A ks) (h0 : A = none → n = 0 ∧ cc = 0) (hn : Aside (ks.length = n)) (hl : n ≤ maxLen) :
    Calls Try.prog 4 #[bV r c i, .slice A n cc] w fun e w' => e = .returned (.bool true) ∧ Below w.heap.size w w' := by
  by_cases hlo : (150 < n ∧ n ≤ 1000) ∨ 1100 < n
  · exact courses_long r c i A n cc w hlo
  · by_cases her : errC r c i ks = 0
    · exact courses_good r c i lo A n cc ks w hx h0 hn hl (by omega) hlo her
    · exact courses_bad r c i lo A n cc ks w hx h0 hn hl (by omega) hlo her

end Go.Proofs.Ytlkecgjpmnganaa
