/- Contracts: the reference's Sap, Brix, Boil, Thin. -/
import Derived.Test.YtfohdafijfjefaaRef1b
import Derived.Test.YtfohdafijfjefaaScaleMath
import Derived.Test.YtfohdafijfjefaaSap1
import Derived.Test.YtfohdafijfjefaaBoil
set_option linter.unusedSimpArgs false
set_option linter.unusedVariables false
namespace Go.Proofs.Ytfohdafijfjefaa
open Go.RowKit Go.Shelf

set_option maxHeartbeats 400000 in
theorem refSap_any (a b : Int) (w : World) :
    Calls Try.prog 99 #[.agg #[.int .i64 a, .int .i64 b]] w fun e w' => e = .returned (.bool (okS ⟨a, b⟩)) ∧ Below w.heap.size w w' := by
  have e : okS ⟨a, b⟩ = (inS a 0 1000000000000 && inS b 0 1000000000000) := by
    rw [Bool.eq_iff_iff, okS_iff, Bool.and_eq_true, inS_iff, inS_iff]
    simp only; omega
  rw [e]
  have h1 := fun W => in_any a 0 1000000000000 W
  have h2 := fun W => in_any b 0 1000000000000 W
  clear e
  generalize inS a 0 1000000000000 = p at h1 ⊢
  generalize inS b 0 1000000000000 = q at h2 ⊢
  cases p with
  | false =>
    go_enter Try.func99, Try.ntmps99
    go_wp2_with fail
    refine (h1 _).mono ?_
    rintro e w0x ⟨rfl, rfl⟩
    go_wp2
    go_ret
    exact ⟨rfl, (by (try show Below _ _ _); repeat (first | (with_reducible refine Below.setCell ?_ (by first | omega | (simp <;> omega)) _) | (with_reducible refine Below.alloc ?_ (by first | omega | (simp <;> omega)) _) | (with_reducible refine Below.drew ?_) | (with_reducible exact Below.refl _ _) | (with_reducible refine below_call ?_ (by assumption) (by first | omega | (simp <;> omega))) | (with_reducible refine below_call ?_ (Drew.below (by assumption) _) (by first | omega | (simp <;> omega)))))⟩
  | true =>
    go_enter Try.func99, Try.ntmps99
    go_wp2_with fail
    refine (h1 _).mono ?_
    rintro e w0x ⟨rfl, rfl⟩
    go_wp2_with fail
    refine (h2 _).mono ?_
    rintro e w0x ⟨rfl, rfl⟩
    go_wp2
    go_ret
    exact ⟨by simp, (by (try show Below _ _ _); repeat (first | (with_reducible refine Below.setCell ?_ (by first | omega | (simp <;> omega)) _) | (with_reducible refine Below.alloc ?_ (by first | omega | (simp <;> omega)) _) | (with_reducible refine Below.drew ?_) | (with_reducible exact Below.refl _ _) | (with_reducible refine below_call ?_ (by assumption) (by first | omega | (simp <;> omega))) | (with_reducible refine below_call ?_ (Drew.below (by assumption) _) (by first | omega | (simp <;> omega)))))⟩

theorem cdiv_le (x m : Int) (hm : 0 < m) (h0 : 0 ≤ x) (h1 : x ≤ m * 10000) : 0 ≤ x / m ∧ x / m ≤ 10000 ∧ x / m ≤ cdiv x m ∧ cdiv x m ≤ 10000 := by
  have k1 : 0 ≤ x / m := Int.ediv_nonneg h0 (by omega)
  have k2 : x / m ≤ 10000 := by
    have := Int.ediv_le_ediv hm h1
    rwa [Int.mul_ediv_cancel_left _ (by omega)] at this
  have k3 : x / m ≤ cdiv x m := by
    have a1 := (fdiv_bd x m hm).1
    have a2 := (fdiv_bd (-x) m hm).1
    unfold cdiv
    have : m * (x / m + -x / m) ≤ 0 := by rw [Int.mul_add]; omega
    rcases Int.lt_or_le 0 (x / m + -x / m) with hp | hp
    · have := Int.mul_pos hm hp; omega
    · omega
  have k4 : cdiv x m ≤ 10000 := by
    unfold cdiv
    have : -(m * 10000) ≤ -x := by omega
    have h := Int.ediv_le_ediv hm this
    rw [show -(m * 10000) = m * (-10000) by omega, Int.mul_ediv_cancel_left _ (by omega)] at h
    omega
  exact ⟨k1, k2, k3, k4⟩

theorem brix_eq (a b : Int) (h : okS ⟨a, b⟩ = true) (hm : a + b ≠ 0) : brixS ⟨a, b⟩ = (⟨b * 10000 / (a + b), cdiv (b * 10000) (a + b)⟩, 0) := by
  have k := (okS_iff _).1 h
  simp only at k
  unfold brixS
  rw [h, if_neg (by decide), if_neg (by simpa using hm), over1 _ (by simpa using hm)]
  unfold Q3.lo Q3.hi
  simp only
  rw [if_neg (by omega), if_neg (by omega)]
  obtain ⟨k1, k2, k3, k4⟩ := cdiv_le (b * 10000) (a + b) (by omega) (by omega) (by omega)
  unfold madeS
  rw [if_pos ((okR_iff _).2 (by simp only; omega))]

set_option maxHeartbeats 1000000 in
theorem refBrix_any (a b : Int) (w : World) :
    Calls Try.prog 24 #[.agg #[.int .i64 a, .int .i64 b]] w fun e w' => e = .returned (RE (brixS ⟨a, b⟩)) ∧ Below w.heap.size w w' := by
  have hR := fun W => refSap_any a b W
  cases h0 : okS ⟨a, b⟩ with
  | false =>
    rw [h0] at hR
    unfold brixS
    rw [if_pos h0]
    go_enter Try.func24, Try.ntmps24
    go_wp2_with fail
    refine (hR _).mono ?_
    rintro e w1 ⟨rfl, hb1⟩
    have hz1 := hb1.size
    try simp only [World.size_alloc, World.size_setCell, World.size_drew] at hz1
    have hc1_0 := fun o => hb1.cell (p := ⟨w.heap.size, o, none⟩) (by show w.heap.size < _; first | omega | (simp only [World.size_alloc, World.size_setCell, World.size_drew]; omega))
    have hf1_0 := fun o => hb1.frozen (p := ⟨w.heap.size, o, none⟩) (by show w.heap.size < _; first | omega | (simp only [World.size_alloc, World.size_setCell, World.size_drew]; omega))
    have hz1_0 : w.heap.size < w1.heap.size := by omega
    have hc1_1 := fun o => hb1.cell (p := ⟨w.heap.size + 1, o, none⟩) (by show w.heap.size + 1 < _; first | omega | (simp only [World.size_alloc, World.size_setCell, World.size_drew]; omega))
    have hf1_1 := fun o => hb1.frozen (p := ⟨w.heap.size + 1, o, none⟩) (by show w.heap.size + 1 < _; first | omega | (simp only [World.size_alloc, World.size_setCell, World.size_drew]; omega))
    have hz1_1 : w.heap.size + 1 < w1.heap.size := by omega
    go_wp2
    refine bodyPost_ret (v := .tuple #[.agg #[.int .i64 0, .int .i64 0], .int .i64 2]) (by simp [results, Try.results24, go_sem, cell_set, hc1_0, hc1_1]) rfl ⟨rfl, (by (try show Below _ _ _); repeat (first | (with_reducible refine Below.setCell ?_ (by first | omega | (simp <;> omega)) _) | (with_reducible refine Below.alloc ?_ (by first | omega | (simp <;> omega)) _) | (with_reducible refine Below.drew ?_) | (with_reducible exact Below.refl _ _) | (with_reducible refine below_call ?_ (by assumption) (by first | omega | (simp <;> omega))) | (with_reducible refine below_call ?_ (Drew.below (by assumption) _) (by first | omega | (simp <;> omega)))))⟩
  | true =>
    have k := (okS_iff _).1 h0
    simp only at k
    rw [h0] at hR
    by_cases hm : a + b = 0
    · unfold brixS
      rw [h0, if_neg (by decide), if_pos hm]
      obtain rfl : a = 0 := by omega
      obtain rfl : b = 0 := by omega
      go_enter Try.func24, Try.ntmps24
      go_wp2_with fail
      refine (hR _).mono ?_
      rintro e w1 ⟨rfl, hb1⟩
      have hz1 := hb1.size
      try simp only [World.size_alloc, World.size_setCell, World.size_drew] at hz1
      have hc1_0 := fun o => hb1.cell (p := ⟨w.heap.size, o, none⟩) (by show w.heap.size < _; first | omega | (simp only [World.size_alloc, World.size_setCell, World.size_drew]; omega))
      have hf1_0 := fun o => hb1.frozen (p := ⟨w.heap.size, o, none⟩) (by show w.heap.size < _; first | omega | (simp only [World.size_alloc, World.size_setCell, World.size_drew]; omega))
      have hz1_0 : w.heap.size < w1.heap.size := by omega
      have hc1_1 := fun o => hb1.cell (p := ⟨w.heap.size + 1, o, none⟩) (by show w.heap.size + 1 < _; first | omega | (simp only [World.size_alloc, World.size_setCell, World.size_drew]; omega))
      have hf1_1 := fun o => hb1.frozen (p := ⟨w.heap.size + 1, o, none⟩) (by show w.heap.size + 1 < _; first | omega | (simp only [World.size_alloc, World.size_setCell, World.size_drew]; omega))
      have hz1_1 : w.heap.size + 1 < w1.heap.size := by omega
      go_wp2
      refine bodyPost_ret (v := .tuple #[.agg #[.int .i64 0, .int .i64 0], .int .i64 7]) (by simp [results, Try.results24, go_sem, cell_set, hc1_0, hc1_1]) rfl ⟨rfl, (by (try show Below _ _ _); repeat (first | (with_reducible refine Below.setCell ?_ (by first | omega | (simp <;> omega)) _) | (with_reducible refine Below.alloc ?_ (by first | omega | (simp <;> omega)) _) | (with_reducible refine Below.drew ?_) | (with_reducible exact Below.refl _ _) | (with_reducible refine below_call ?_ (by assumption) (by first | omega | (simp <;> omega))) | (with_reducible refine below_call ?_ (Drew.below (by assumption) _) (by first | omega | (simp <;> omega)))))⟩
    · rw [brix_eq a b h0 hm]
      have hF := fun W => floor_any (b * 10000) (a + b) (by omega) (by omega) W
      have hC := fun W => ceil_any (b * 10000) (a + b) (by omega) (by omega) W
      have e1 : IntKind.i64.wrap (b * 10000) = b * 10000 := by rw [IntKind.wrap_i64]; omega
      go_enter Try.func24, Try.ntmps24
      go_wp2_with fail
      refine (hR _).mono ?_
      rintro e w1 ⟨rfl, hb1⟩
      have hz1 := hb1.size
      try simp only [World.size_alloc, World.size_setCell, World.size_drew] at hz1
      have hc1_0 := fun o => hb1.cell (p := ⟨w.heap.size, o, none⟩) (by show w.heap.size < _; first | omega | (simp only [World.size_alloc, World.size_setCell, World.size_drew]; omega))
      have hf1_0 := fun o => hb1.frozen (p := ⟨w.heap.size, o, none⟩) (by show w.heap.size < _; first | omega | (simp only [World.size_alloc, World.size_setCell, World.size_drew]; omega))
      have hz1_0 : w.heap.size < w1.heap.size := by omega
      have hc1_1 := fun o => hb1.cell (p := ⟨w.heap.size + 1, o, none⟩) (by show w.heap.size + 1 < _; first | omega | (simp only [World.size_alloc, World.size_setCell, World.size_drew]; omega))
      have hf1_1 := fun o => hb1.frozen (p := ⟨w.heap.size + 1, o, none⟩) (by show w.heap.size + 1 < _; first | omega | (simp only [World.size_alloc, World.size_setCell, World.size_drew]; omega))
      have hz1_1 : w.heap.size + 1 < w1.heap.size := by omega
      go_wp2_with fail
      first | go_region_with (first | (go_at_call 95; refine (hF _).mono ?_; rintro e w5 ⟨rfl, hw5⟩; subst hw5) | (go_at_call 96; refine (hC _).mono ?_; rintro e w5 ⟨rfl, hw5⟩; subst hw5)) | fail
      all_goals
        go_wp2
        refine bodyPost_ret (v := .tuple #[.agg #[.int .i64 (b * 10000 / (a + b)), .int .i64 (cdiv (b * 10000) (a + b))], .int .i64 0]) (by simp [results, Try.results24, go_sem, cell_set, hc1_0, hc1_1]) rfl ⟨rfl, (by (try show Below _ _ _); repeat (first | (with_reducible refine Below.setCell ?_ (by first | omega | (simp <;> omega)) _) | (with_reducible refine Below.alloc ?_ (by first | omega | (simp <;> omega)) _) | (with_reducible refine Below.drew ?_) | (with_reducible exact Below.refl _ _) | (with_reducible refine below_call ?_ (by assumption) (by first | omega | (simp <;> omega))) | (with_reducible refine below_call ?_ (Drew.below (by assumption) _) (by first | omega | (simp <;> omega)))))⟩

set_option maxHeartbeats 400000 in
theorem refBoil_any (a s b : Int) (w : World) :
    Calls Try.prog 26 #[.agg #[.int .i64 a, .int .i64 s], .int .i64 b] w fun e w' => e = .returned (IE (boilS ⟨a, s⟩ b)) ∧ Below w.heap.size w w' := by
  have hR := fun W => refSap_any a s W
  have hI := fun W => in_any b 1 10000 W
  unfold boilS spareS IE
  rw [btw_in]
  cases h0 : okS ⟨a, s⟩ with
  | false =>
    rw [h0] at hR
    rw [if_pos rfl]
    go_enter Try.func26, Try.ntmps26
    go_wp2_with fail
    refine (hR _).mono ?_
    rintro e w1 ⟨rfl, hb1⟩
    have hz1 := hb1.size
    try simp only [World.size_alloc, World.size_setCell, World.size_drew] at hz1
    have hc1_0 := fun o => hb1.cell (p := ⟨w.heap.size, o, none⟩) (by show w.heap.size < _; first | omega | (simp only [World.size_alloc, World.size_setCell, World.size_drew]; omega))
    have hf1_0 := fun o => hb1.frozen (p := ⟨w.heap.size, o, none⟩) (by show w.heap.size < _; first | omega | (simp only [World.size_alloc, World.size_setCell, World.size_drew]; omega))
    have hz1_0 : w.heap.size < w1.heap.size := by omega
    go_wp2
    refine bodyPost_ret (v := .tuple #[.int .i64 0, .int .i64 2]) (by simp [results, Try.results26, go_sem, cell_set]) rfl ⟨rfl, (by (try show Below _ _ _); repeat (first | (with_reducible refine Below.setCell ?_ (by first | omega | (simp <;> omega)) _) | (with_reducible refine Below.alloc ?_ (by first | omega | (simp <;> omega)) _) | (with_reducible refine Below.drew ?_) | (with_reducible exact Below.refl _ _) | (with_reducible refine below_call ?_ (by assumption) (by first | omega | (simp <;> omega))) | (with_reducible refine below_call ?_ (Drew.below (by assumption) _) (by first | omega | (simp <;> omega)))))⟩
  | true =>
    have k := (okS_iff _).1 h0
    simp only at k
    rw [h0] at hR
    rw [if_neg (by decide)]
    cases h1 : inS b 1 10000 with
    | false =>
      rw [h1] at hI
      rw [if_pos rfl]
      go_enter Try.func26, Try.ntmps26
      go_wp2_with fail
      refine (hR _).mono ?_
      rintro e w1 ⟨rfl, hb1⟩
      have hz1 := hb1.size
      try simp only [World.size_alloc, World.size_setCell, World.size_drew] at hz1
      have hc1_0 := fun o => hb1.cell (p := ⟨w.heap.size, o, none⟩) (by show w.heap.size < _; first | omega | (simp only [World.size_alloc, World.size_setCell, World.size_drew]; omega))
      have hf1_0 := fun o => hb1.frozen (p := ⟨w.heap.size, o, none⟩) (by show w.heap.size < _; first | omega | (simp only [World.size_alloc, World.size_setCell, World.size_drew]; omega))
      have hz1_0 : w.heap.size < w1.heap.size := by omega
      go_wp2_with fail
      refine (hI _).mono ?_
      rintro e w0x ⟨rfl, rfl⟩
      go_wp2
      refine bodyPost_ret (v := .tuple #[.int .i64 0, .int .i64 3]) (by simp [results, Try.results26, go_sem, cell_set]) rfl ⟨rfl, (by (try show Below _ _ _); repeat (first | (with_reducible refine Below.setCell ?_ (by first | omega | (simp <;> omega)) _) | (with_reducible refine Below.alloc ?_ (by first | omega | (simp <;> omega)) _) | (with_reducible refine Below.drew ?_) | (with_reducible exact Below.refl _ _) | (with_reducible refine below_call ?_ (by assumption) (by first | omega | (simp <;> omega))) | (with_reducible refine below_call ?_ (Drew.below (by assumption) _) (by first | omega | (simp <;> omega)))))⟩
    | true =>
      have kb := (inS_iff _ _ _).1 h1
      rw [h1] at hI
      rw [if_neg (by decide)]
      simp only
      by_cases hs : s = 0
      · rw [if_pos hs]
        subst hs
        go_enter Try.func26, Try.ntmps26
        go_wp2_with fail
        refine (hR _).mono ?_
        rintro e w1 ⟨rfl, hb1⟩
        have hz1 := hb1.size
        try simp only [World.size_alloc, World.size_setCell, World.size_drew] at hz1
        have hc1_0 := fun o => hb1.cell (p := ⟨w.heap.size, o, none⟩) (by show w.heap.size < _; first | omega | (simp only [World.size_alloc, World.size_setCell, World.size_drew]; omega))
        have hf1_0 := fun o => hb1.frozen (p := ⟨w.heap.size, o, none⟩) (by show w.heap.size < _; first | omega | (simp only [World.size_alloc, World.size_setCell, World.size_drew]; omega))
        have hz1_0 : w.heap.size < w1.heap.size := by omega
        go_wp2_with fail
        refine (hI _).mono ?_
        rintro e w0x ⟨rfl, rfl⟩
        go_wp2
        refine bodyPost_ret (v := .tuple #[.int .i64 0, .int .i64 7]) (by simp [results, Try.results26, go_sem, cell_set]) rfl ⟨rfl, (by (try show Below _ _ _); repeat (first | (with_reducible refine Below.setCell ?_ (by first | omega | (simp <;> omega)) _) | (with_reducible refine Below.alloc ?_ (by first | omega | (simp <;> omega)) _) | (with_reducible refine Below.drew ?_) | (with_reducible exact Below.refl _ _) | (with_reducible refine below_call ?_ (by assumption) (by first | omega | (simp <;> omega))) | (with_reducible refine below_call ?_ (Drew.below (by assumption) _) (by first | omega | (simp <;> omega)))))⟩
      · rw [if_neg hs]
        have hd := spare_div s b (by omega) (by omega) (by omega)
        have hF := fun W => floor_any (s * 10000) b (by omega) (by omega) W
        generalize s * 10000 / b = d at hF hd ⊢
        have e2 : IntKind.i64.wrap (a + s - d) = a + s - d := by rw [IntKind.wrap_i64]; omega
        have e3 : max 0 (-(d - (a + s))) = max 0 (a + s - d) := by omega
        rw [e3]
        go_enter Try.func26, Try.ntmps26
        go_wp2_with fail
        refine (hR _).mono ?_
        rintro e w1 ⟨rfl, hb1⟩
        have hz1 := hb1.size
        try simp only [World.size_alloc, World.size_setCell, World.size_drew] at hz1
        have hc1_0 := fun o => hb1.cell (p := ⟨w.heap.size, o, none⟩) (by show w.heap.size < _; first | omega | (simp only [World.size_alloc, World.size_setCell, World.size_drew]; omega))
        have hf1_0 := fun o => hb1.frozen (p := ⟨w.heap.size, o, none⟩) (by show w.heap.size < _; first | omega | (simp only [World.size_alloc, World.size_setCell, World.size_drew]; omega))
        have hz1_0 : w.heap.size < w1.heap.size := by omega
        go_wp2_with fail
        refine (hI _).mono ?_
        rintro e w0x ⟨rfl, rfl⟩
        go_wp2_with fail
        go_quiet ((go_at_call 95; exact quiet_same (hF _)))
        generalize hwq3 : World.drewN w1 _ = w3
        have hd3 : Drew w1 w3 := ⟨_, hwq3.symm⟩
        have hb3 : Below w1.heap.size w1 w3 := hd3.below _
        have hz3 := hb3.size
        clear hwq3
        have hc3_0 := fun o => hb3.cell (p := ⟨w.heap.size, o, none⟩) (by show w.heap.size < _; omega)
        have hf3_0 := fun o => hb3.frozen (p := ⟨w.heap.size, o, none⟩) (by show w.heap.size < _; omega)
        have hz3_0 : w.heap.size < w3.heap.size := by omega
        go_wp2
        refine bodyPost_ret (v := .tuple #[.int .i64 (max 0 (a + s - d)), .int .i64 0]) (by simp [results, Try.results26, go_sem, cell_set]) rfl ⟨rfl, (by (try show Below _ _ _); repeat (first | (with_reducible refine Below.setCell ?_ (by first | omega | (simp <;> omega)) _) | (with_reducible refine Below.alloc ?_ (by first | omega | (simp <;> omega)) _) | (with_reducible refine Below.drew ?_) | (with_reducible exact Below.refl _ _) | (with_reducible refine below_call ?_ (by assumption) (by first | omega | (simp <;> omega))) | (with_reducible refine below_call ?_ (Drew.below (by assumption) _) (by first | omega | (simp <;> omega)))))⟩

set_option maxHeartbeats 600000 in
theorem refThin_any (a s b : Int) (w : World) :
    Calls Try.prog 28 #[.agg #[.int .i64 a, .int .i64 s], .int .i64 b] w fun e w' => e = .returned (IE (thinS ⟨a, s⟩ b)) ∧ Below w.heap.size w w' := by
  have hR := fun W => refSap_any a s W
  have hI := fun W => in_any b 1 10000 W
  cases h0 : okS ⟨a, s⟩ with
  | false =>
    rw [h0] at hR
    have et : thinS ⟨a, s⟩ b = (0, 2) := by simp [thinS, spareS, h0]
    rw [et]
    simp only [IE]
    go_enter Try.func28, Try.ntmps28
    go_wp2_with fail
    refine (hR _).mono ?_
    rintro e w1 ⟨rfl, hb1⟩
    have hz1 := hb1.size
    try simp only [World.size_alloc, World.size_setCell, World.size_drew] at hz1
    have hc1_0 := fun o => hb1.cell (p := ⟨w.heap.size, o, none⟩) (by show w.heap.size < _; first | omega | (simp only [World.size_alloc, World.size_setCell, World.size_drew]; omega))
    have hf1_0 := fun o => hb1.frozen (p := ⟨w.heap.size, o, none⟩) (by show w.heap.size < _; first | omega | (simp only [World.size_alloc, World.size_setCell, World.size_drew]; omega))
    have hz1_0 : w.heap.size < w1.heap.size := by omega
    go_wp2
    refine bodyPost_ret (v := .tuple #[.int .i64 0, .int .i64 2]) (by simp [results, Try.results28, go_sem, cell_set]) rfl ⟨rfl, (by (try show Below _ _ _); repeat (first | (with_reducible refine Below.setCell ?_ (by first | omega | (simp <;> omega)) _) | (with_reducible refine Below.alloc ?_ (by first | omega | (simp <;> omega)) _) | (with_reducible refine Below.drew ?_) | (with_reducible exact Below.refl _ _) | (with_reducible refine below_call ?_ (by assumption) (by first | omega | (simp <;> omega))) | (with_reducible refine below_call ?_ (Drew.below (by assumption) _) (by first | omega | (simp <;> omega)))))⟩
  | true =>
    have k := (okS_iff _).1 h0
    simp only at k
    rw [h0] at hR
    cases h1 : inS b 1 10000 with
    | false =>
      rw [h1] at hI
      have et : thinS ⟨a, s⟩ b = (0, 3) := by simp [thinS, spareS, h0, btw_in, h1]
      rw [et]
      simp only [IE]
      go_enter Try.func28, Try.ntmps28
      go_wp2_with fail
      refine (hR _).mono ?_
      rintro e w1 ⟨rfl, hb1⟩
      have hz1 := hb1.size
      try simp only [World.size_alloc, World.size_setCell, World.size_drew] at hz1
      have hc1_0 := fun o => hb1.cell (p := ⟨w.heap.size, o, none⟩) (by show w.heap.size < _; first | omega | (simp only [World.size_alloc, World.size_setCell, World.size_drew]; omega))
      have hf1_0 := fun o => hb1.frozen (p := ⟨w.heap.size, o, none⟩) (by show w.heap.size < _; first | omega | (simp only [World.size_alloc, World.size_setCell, World.size_drew]; omega))
      have hz1_0 : w.heap.size < w1.heap.size := by omega
      go_wp2_with fail
      refine (hI _).mono ?_
      rintro e w0x ⟨rfl, rfl⟩
      go_wp2
      refine bodyPost_ret (v := .tuple #[.int .i64 0, .int .i64 3]) (by simp [results, Try.results28, go_sem, cell_set]) rfl ⟨rfl, (by (try show Below _ _ _); repeat (first | (with_reducible refine Below.setCell ?_ (by first | omega | (simp <;> omega)) _) | (with_reducible refine Below.alloc ?_ (by first | omega | (simp <;> omega)) _) | (with_reducible refine Below.drew ?_) | (with_reducible exact Below.refl _ _) | (with_reducible refine below_call ?_ (by assumption) (by first | omega | (simp <;> omega))) | (with_reducible refine below_call ?_ (Drew.below (by assumption) _) (by first | omega | (simp <;> omega)))))⟩
    | true =>
      have kb := (inS_iff _ _ _).1 h1
      rw [h1] at hI
      have hd := spare_div s b (by omega) (by omega) (by omega)
      have hF := fun W => floor_any (s * 10000) b (by omega) (by omega) W
      by_cases hs : s = 0
      · subst hs
        have et : thinS ⟨a, 0⟩ b = (0, 7) := by simp [thinS, spareS, h0, btw_in, h1]
        rw [et]
        simp only [IE]
        simp only [Int.zero_mul, Int.zero_ediv] at hF
        go_enter Try.func28, Try.ntmps28
        go_wp2_with fail
        refine (hR _).mono ?_
        rintro e w1 ⟨rfl, hb1⟩
        have hz1 := hb1.size
        try simp only [World.size_alloc, World.size_setCell, World.size_drew] at hz1
        have hc1_0 := fun o => hb1.cell (p := ⟨w.heap.size, o, none⟩) (by show w.heap.size < _; first | omega | (simp only [World.size_alloc, World.size_setCell, World.size_drew]; omega))
        have hf1_0 := fun o => hb1.frozen (p := ⟨w.heap.size, o, none⟩) (by show w.heap.size < _; first | omega | (simp only [World.size_alloc, World.size_setCell, World.size_drew]; omega))
        have hz1_0 : w.heap.size < w1.heap.size := by omega
        go_wp2_with fail
        refine (hI _).mono ?_
        rintro e w0x ⟨rfl, rfl⟩
        go_wp2_with fail
        go_quiet ((go_at_call 95; exact quiet_same (hF _)))
        generalize hwq3 : World.drewN w1 _ = w3
        have hd3 : Drew w1 w3 := ⟨_, hwq3.symm⟩
        have hb3 : Below w1.heap.size w1 w3 := hd3.below _
        have hz3 := hb3.size
        clear hwq3
        have hc3_0 := fun o => hb3.cell (p := ⟨w.heap.size, o, none⟩) (by show w.heap.size < _; omega)
        have hf3_0 := fun o => hb3.frozen (p := ⟨w.heap.size, o, none⟩) (by show w.heap.size < _; omega)
        have hz3_0 : w.heap.size < w3.heap.size := by omega
        go_wp2
        refine bodyPost_ret (v := .tuple #[.int .i64 0, .int .i64 7]) (by simp [results, Try.results28, go_sem, cell_set]) rfl ⟨rfl, (by (try show Below _ _ _); repeat (first | (with_reducible refine Below.setCell ?_ (by first | omega | (simp <;> omega)) _) | (with_reducible refine Below.alloc ?_ (by first | omega | (simp <;> omega)) _) | (with_reducible refine Below.drew ?_) | (with_reducible exact Below.refl _ _) | (with_reducible refine below_call ?_ (by assumption) (by first | omega | (simp <;> omega))) | (with_reducible refine below_call ?_ (Drew.below (by assumption) _) (by first | omega | (simp <;> omega)))))⟩
      · have e0 : spareS ⟨a, s⟩ b = (s * 10000 / b - (a + s), 0) := by simp [spareS, h0, btw_in, h1, hs]
        have et : thinS ⟨a, s⟩ b = if s * 10000 / b - (a + s) < 0 then (0, 7) else if 1000000000000 < a + (s * 10000 / b - (a + s)) then (0, 10) else (s * 10000 / b - (a + s), 0) := by
          unfold thinS
          rw [e0]
          rfl
        rw [et]
        clear e0 et
        simp only [IE]
        generalize s * 10000 / b = d at hF hd ⊢
        have e1 : IntKind.i64.wrap (d - a) = d - a := by rw [IntKind.wrap_i64]; omega
        have e2 : IntKind.i64.wrap (d - a - s) = d - a - s := by rw [IntKind.wrap_i64]; omega
        have e3 : d - (a + s) = d - a - s := by omega
        have hs2 : (s == 0) = false := by simp [hs]
        rw [e3]
        by_cases hneg : d - a - s < 0
        · rw [if_pos hneg]
          go_enter Try.func28, Try.ntmps28
          go_wp2_with fail
          refine (hR _).mono ?_
          rintro e w1 ⟨rfl, hb1⟩
          have hz1 := hb1.size
          try simp only [World.size_alloc, World.size_setCell, World.size_drew] at hz1
          have hc1_0 := fun o => hb1.cell (p := ⟨w.heap.size, o, none⟩) (by show w.heap.size < _; first | omega | (simp only [World.size_alloc, World.size_setCell, World.size_drew]; omega))
          have hf1_0 := fun o => hb1.frozen (p := ⟨w.heap.size, o, none⟩) (by show w.heap.size < _; first | omega | (simp only [World.size_alloc, World.size_setCell, World.size_drew]; omega))
          have hz1_0 : w.heap.size < w1.heap.size := by omega
          go_wp2_with fail
          refine (hI _).mono ?_
          rintro e w0x ⟨rfl, rfl⟩
          go_wp2_with fail
          go_quiet ((go_at_call 95; exact quiet_same (hF _)))
          generalize hwq3 : World.drewN w1 _ = w3
          have hd3 : Drew w1 w3 := ⟨_, hwq3.symm⟩
          have hb3 : Below w1.heap.size w1 w3 := hd3.below _
          have hz3 := hb3.size
          clear hwq3
          have hc3_0 := fun o => hb3.cell (p := ⟨w.heap.size, o, none⟩) (by show w.heap.size < _; omega)
          have hf3_0 := fun o => hb3.frozen (p := ⟨w.heap.size, o, none⟩) (by show w.heap.size < _; omega)
          have hz3_0 : w.heap.size < w3.heap.size := by omega
          go_wp2
          refine bodyPost_ret (v := .tuple #[.int .i64 0, .int .i64 7]) (by simp [results, Try.results28, go_sem, cell_set]) rfl ⟨rfl, (by (try show Below _ _ _); repeat (first | (with_reducible refine Below.setCell ?_ (by first | omega | (simp <;> omega)) _) | (with_reducible refine Below.alloc ?_ (by first | omega | (simp <;> omega)) _) | (with_reducible refine Below.drew ?_) | (with_reducible exact Below.refl _ _) | (with_reducible refine below_call ?_ (by assumption) (by first | omega | (simp <;> omega))) | (with_reducible refine below_call ?_ (Drew.below (by assumption) _) (by first | omega | (simp <;> omega)))))⟩
        · rw [if_neg hneg]
          by_cases hbig : 1000000000000 < a + (d - a - s)
          · rw [if_pos hbig]
            go_enter Try.func28, Try.ntmps28
            go_wp2_with fail
            refine (hR _).mono ?_
            rintro e w1 ⟨rfl, hb1⟩
            have hz1 := hb1.size
            try simp only [World.size_alloc, World.size_setCell, World.size_drew] at hz1
            have hc1_0 := fun o => hb1.cell (p := ⟨w.heap.size, o, none⟩) (by show w.heap.size < _; first | omega | (simp only [World.size_alloc, World.size_setCell, World.size_drew]; omega))
            have hf1_0 := fun o => hb1.frozen (p := ⟨w.heap.size, o, none⟩) (by show w.heap.size < _; first | omega | (simp only [World.size_alloc, World.size_setCell, World.size_drew]; omega))
            have hz1_0 : w.heap.size < w1.heap.size := by omega
            go_wp2_with fail
            refine (hI _).mono ?_
            rintro e w0x ⟨rfl, rfl⟩
            go_wp2_with fail
            go_quiet ((go_at_call 95; exact quiet_same (hF _)))
            generalize hwq3 : World.drewN w1 _ = w3
            have hd3 : Drew w1 w3 := ⟨_, hwq3.symm⟩
            have hb3 : Below w1.heap.size w1 w3 := hd3.below _
            have hz3 := hb3.size
            clear hwq3
            have hc3_0 := fun o => hb3.cell (p := ⟨w.heap.size, o, none⟩) (by show w.heap.size < _; omega)
            have hf3_0 := fun o => hb3.frozen (p := ⟨w.heap.size, o, none⟩) (by show w.heap.size < _; omega)
            have hz3_0 : w.heap.size < w3.heap.size := by omega
            go_wp2
            refine bodyPost_ret (v := .tuple #[.int .i64 0, .int .i64 10]) (by simp [results, Try.results28, go_sem, cell_set]) rfl ⟨rfl, (by (try show Below _ _ _); repeat (first | (with_reducible refine Below.setCell ?_ (by first | omega | (simp <;> omega)) _) | (with_reducible refine Below.alloc ?_ (by first | omega | (simp <;> omega)) _) | (with_reducible refine Below.drew ?_) | (with_reducible exact Below.refl _ _) | (with_reducible refine below_call ?_ (by assumption) (by first | omega | (simp <;> omega))) | (with_reducible refine below_call ?_ (Drew.below (by assumption) _) (by first | omega | (simp <;> omega)))))⟩
          · rw [if_neg hbig]
            go_enter Try.func28, Try.ntmps28
            go_wp2_with fail
            refine (hR _).mono ?_
            rintro e w1 ⟨rfl, hb1⟩
            have hz1 := hb1.size
            try simp only [World.size_alloc, World.size_setCell, World.size_drew] at hz1
            have hc1_0 := fun o => hb1.cell (p := ⟨w.heap.size, o, none⟩) (by show w.heap.size < _; first | omega | (simp only [World.size_alloc, World.size_setCell, World.size_drew]; omega))
            have hf1_0 := fun o => hb1.frozen (p := ⟨w.heap.size, o, none⟩) (by show w.heap.size < _; first | omega | (simp only [World.size_alloc, World.size_setCell, World.size_drew]; omega))
            have hz1_0 : w.heap.size < w1.heap.size := by omega
            go_wp2_with fail
            refine (hI _).mono ?_
            rintro e w0x ⟨rfl, rfl⟩
            go_wp2_with fail
            go_quiet ((go_at_call 95; exact quiet_same (hF _)))
            generalize hwq3 : World.drewN w1 _ = w3
            have hd3 : Drew w1 w3 := ⟨_, hwq3.symm⟩
            have hb3 : Below w1.heap.size w1 w3 := hd3.below _
            have hz3 := hb3.size
            clear hwq3
            have hc3_0 := fun o => hb3.cell (p := ⟨w.heap.size, o, none⟩) (by show w.heap.size < _; omega)
            have hf3_0 := fun o => hb3.frozen (p := ⟨w.heap.size, o, none⟩) (by show w.heap.size < _; omega)
            have hz3_0 : w.heap.size < w3.heap.size := by omega
            go_wp2
            refine bodyPost_ret (v := .tuple #[.int .i64 (d - a - s), .int .i64 0]) (by simp [results, Try.results28, go_sem, cell_set]) rfl ⟨rfl, (by (try show Below _ _ _); repeat (first | (with_reducible refine Below.setCell ?_ (by first | omega | (simp <;> omega)) _) | (with_reducible refine Below.alloc ?_ (by first | omega | (simp <;> omega)) _) | (with_reducible refine Below.drew ?_) | (with_reducible exact Below.refl _ _) | (with_reducible refine below_call ?_ (by assumption) (by first | omega | (simp <;> omega))) | (with_reducible refine below_call ?_ (Drew.below (by assumption) _) (by first | omega | (simp <;> omega)))))⟩

end Go.Proofs.Ytfohdafijfjefaa
