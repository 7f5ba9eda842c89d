/- Contracts: two equal lists compared (spilelaw01.same); reference Ranges, Sum, Meet, Hull, Less; span.Sum. -/
import Derived.Test.YtfohdafijfjefaaOwn
import Derived.Test.YtfohdafijfjefaaRef1
import Derived.Test.YtfohdafijfjefaaSpan2
set_option linter.unusedSimpArgs false
set_option linter.unusedVariables false
namespace Go.Proofs.Ytfohdafijfjefaa
open Go.RowKit Go.Shelf
attribute [local go_sem ↓] Go.wp_at_zero Go.wp_at_succ

set_option maxHeartbeats 1000000 in
theorem same_self (lo1 lo2 : Nat) (A1 : Option Addr) (c1 : Nat) (A2 : Option Addr) (n c2 : Nat) (xs : List R) (w : World) (hx : Ranges w lo1 A1 xs) (hy : Ranges w lo2 A2 xs) (hn : Aside (xs.length = n)) (hl : n ≤ maxLen) :
    Calls Try.prog 43 #[.slice A1 n c1, .slice A2 n c2] w fun e w' => e = .returned (.bool true) ∧ Drew w w' := by
  unfold maxLen at hl
  have HX := Lib.hid hx
  have HY := Lib.hid hy
  clear hx hy
  go_enter Try.func43, Try.ntmps43
  go_wp2
  go_loopg [5] (n) (fun gg i wr => ∃ k : Nat, k ≤ n ∧ n - k ≤ gg ∧ i = .int .i64 k ∧ Aside (Drew w wr))
  case atStart => exact ⟨0, Nat.zero_le _, Nat.le_refl _, rfl, Drew.refl _⟩
  case round =>
    obtain ⟨k, hk, hg, rfl, hd⟩ := hrel
    by_cases hlt : k < n
    · obtain ⟨b, o, rfl, _, hlb, hc⟩ := HX.out (by have := hn.out; omega)
      obtain ⟨b', o', rfl, _, hlb', hc'⟩ := HY.out (by have := hn.out; omega)
      have hdb := hd.out.below (w.heap.size)
      have x0 := (hdb.cell (p := ⟨b, o + k * 2 + 0, none⟩) hlb).trans (hc k 0 (by have := hn.out; omega) (by omega))
      have x1 := (hdb.cell (p := ⟨b, o + k * 2 + 1, none⟩) hlb).trans (hc k 1 (by have := hn.out; omega) (by omega))
      have y0 := (hdb.cell (p := ⟨b', o' + k * 2 + 0, none⟩) hlb').trans (hc' k 0 (by have := hn.out; omega) (by omega))
      have y1 := (hdb.cell (p := ⟨b', o' + k * 2 + 1, none⟩) hlb').trans (hc' k 1 (by have := hn.out; omega) (by omega))
      clear hc hc' hdb
      generalize xs[k]?.getD R.d = x at x0 x1 y0 y1
      obtain ⟨p0, p1⟩ := x
      simp only [R.cell, Nat.add_zero, if_true, Nat.one_ne_zero, if_false] at x0 x1 y0 y1
      have hltz : (k : Int) < (n : Int) := by omega
      have hk0 : (0 : Int) ≤ (k : Int) := by omega
      go_wp2_with fail
      go_quiet (fail)
      go_wp2
      go_roundg (n - (k + 1))
      case measure => omega
      case rel => exact ⟨k + 1, by omega, by omega, by go_num, (by obtain ⟨m, hm⟩ := hd.out; exact ⟨m + _, by rw [hm]; exact (World.drewN_drewN _ _ _)⟩)⟩
    · have hltz : ¬ (k : Int) < (n : Int) := by omega
      go_wp2
      go_ret
      exact ⟨rfl, hd.out⟩

set_option maxHeartbeats 1000000 in
theorem refRanges_any (lo : Nat) (A : Option Addr) (n c : Nat) (xs : List R) (w : World) (hx : Ranges w lo A xs) (hn : Aside (xs.length = n)) (hl : n ≤ maxLen) :
    Calls Try.prog 126 #[.slice A n c] w fun e w' => e = .returned (.int .i64 (checkS xs)) ∧ Below w.heap.size w w' := by
  unfold maxLen at hl
  by_cases h100 : 100 < n
  · have hz : (100 : Int) < (n : Int) := by omega
    have e : checkS xs = 5 := by unfold checkS; rw [if_pos (by rw [hn.out]; exact h100)]
    rw [e]
    clear hx e
    go_enter Try.func126, Try.ntmps126
    go_wp2
    go_ret
    exact ⟨rfl, Below.refl _ _⟩
  · have hz : ¬ (100 : Int) < (n : Int) := by omega
    have e : checkS xs = if xs.all okR then 0 else 2 := by unfold checkS; rw [if_neg (by rw [hn.out]; exact h100)]
    generalize hres : checkS xs = res at e ⊢
    have Hres := Lib.hid e
    clear e hres
    have HX := Lib.hid hx
    clear hx
    go_enter Try.func126, Try.ntmps126
    go_wp2
    go_loopg [3] (n) (fun gg i wr => ∃ k : Nat, k ≤ n ∧ n - k ≤ gg ∧ i = .int .i64 k ∧ Aside (∀ j, j < k → okR (xs[j]?.getD R.d) = true) ∧ Aside (Below w.heap.size w wr))
    case atStart => exact ⟨0, Nat.zero_le _, Nat.le_refl _, rfl, (fun j hj => absurd hj (Nat.not_lt_zero _)), Below.refl _ _⟩
    case round =>
      obtain ⟨k, hk, hg, rfl, hall, hb⟩ := hrel
      have hbs := hb.out.size
      by_cases hlt : k < n
      · obtain ⟨b, o, rfl, _, hlb, hc⟩ := HX.out (by have := hn.out; omega)
        have x0 := (hb.out.cell (p := ⟨b, o + k * 2 + 0, none⟩) hlb).trans (hc k 0 (by have := hn.out; omega) (by omega))
        have x1 := (hb.out.cell (p := ⟨b, o + k * 2 + 1, none⟩) hlb).trans (hc k 1 (by have := hn.out; omega) (by omega))
        have hfa := all_false okR R.d xs k (by have := hn.out; omega)
        clear hc
        generalize hxk : xs[k]?.getD R.d = x at x0 x1 hfa
        obtain ⟨p0, p1⟩ := x
        simp only [R.cell, Nat.add_zero, if_true, Nat.one_ne_zero, if_false] at x0 x1
        have Hfa := Lib.hid hfa
        have Hxk := Lib.hid hxk
        clear hfa hxk
        have hltz : (k : Int) < (n : Int) := by omega
        have hk0 : (0 : Int) ≤ (k : Int) := by omega
        have hR := fun W => refRange_any p0 p1 W
        cases h0 : okR ⟨p0, p1⟩ with
        | false =>
          rw [h0] at hR
          have hr := Hres.out
          rw [if_neg (by rw [Hfa.out h0]; decide)] at hr
          have Hr := Lib.hid hr
          clear hr h0
          go_wp2_with fail
          refine (hR _).mono ?_
          rintro e w1 ⟨rfl, hb1⟩
          have hz1 := hb1.size
          try simp only [World.size_alloc, World.size_setCell, World.size_drew] at hz1
          go_wp2
          go_ret
          exact ⟨by rw [Hr.out]; rfl, below_call hb.out hb1 (by omega)⟩
        | true =>
          rw [h0] at hR
          have H0 := Lib.hid h0
          clear h0
          go_wp2_with fail
          refine (hR _).mono ?_
          rintro e w1 ⟨rfl, hb1⟩
          have hz1 := hb1.size
          try simp only [World.size_alloc, World.size_setCell, World.size_drew] at hz1
          go_wp2
          go_roundg (n - (k + 1))
          case measure => omega
          case rel => exact ⟨k + 1, by omega, by omega, by go_num, (fun j hj => if e : j = k then (by subst e; rw [Hxk.out]; exact H0.out) else hall.out j (by omega)), below_call hb.out hb1 (by omega)⟩
      · have hltz : ¬ (k : Int) < (n : Int) := by omega
        have hr := Hres.out
        rw [if_pos (all_take okR R.d xs (fun j hj => hall.out j (by have := hn.out; omega)))] at hr
        have Hr := Lib.hid hr
        clear hr
        go_wp2
        go_ret
        exact ⟨by rw [Hr.out]; rfl, hb.out⟩

/-- the sum, if it is valid -/
def sumS (xs : List R) : R × Int := if checkS xs = 0 then madeS (sumR xs).lo (sumR xs).hi else (⟨0, 0⟩, checkS xs)

theorem check_ok {xs : List R} (h : checkS xs = 0) : xs.length ≤ 100 ∧ ∀ j, j < xs.length → okR (xs[j]?.getD R.d) = true := by
  unfold checkS at h
  by_cases h1 : 100 < xs.length
  · rw [if_pos h1] at h; simp at h
  · rw [if_neg h1] at h
    by_cases h2 : xs.all okR = true
    · refine ⟨by omega, fun j hj => ?_⟩
      rw [List.all_eq_true] at h2
      rw [List.getElem?_eq_getElem hj]
      exact h2 _ (List.getElem_mem hj)
    · rw [if_neg h2] at h; simp at h

set_option maxRecDepth 100000 in
set_option maxHeartbeats 1000000 in
theorem refSum_any (lo : Nat) (A : Option Addr) (n c : Nat) (xs : List R) (w : World) (hx : Ranges w lo A xs) (hn : Aside (xs.length = n)) (hl : n ≤ maxLen) :
    Calls Try.prog 75 #[.slice A n c] w fun e w' => e = .returned (RE (sumS xs)) ∧ Below w.heap.size w w' := by
  have hC := fun (W : World) (h : Below w.heap.size w W) => refRanges_any lo A n c xs W (hx.below h (Nat.le_refl _)) hn hl
  unfold maxLen at hl
  by_cases h0 : checkS xs = 0
  · have e : sumS xs = madeS (sumR xs).lo (sumR xs).hi := by unfold sumS; rw [if_pos h0]
    rw [e]
    obtain ⟨h100, hok⟩ := check_ok h0
    have hn100 : n ≤ 100 := by have := hn.out; omega
    rw [h0] at hC
    have HX := Lib.hid hx
    have HOK := Lib.hid hok
    clear hx hok e h0
    generalize hres : madeS (sumR xs).lo (sumR xs).hi = res
    have Hres := Lib.hid hres
    clear hres
    unfold RE
    go_enter Try.func75, Try.ntmps75
    go_wp2_with fail
    refine (hC _ ((Below.refl _ _).alloc (Nat.le_refl _) _)).mono ?_
    rintro e w1 ⟨rfl, hb1⟩
    have hz1 := hb1.size
    try simp only [World.size_alloc, World.size_setCell, World.size_drew] at hz1
    have hc1_0 := fun o => hb1.cell (p := ⟨w.heap.size, o, none⟩) (by show w.heap.size < _; first | omega | (simp only [World.size_alloc, World.size_setCell, World.size_drew]; omega))
    have hf1_0 := fun o => hb1.frozen (p := ⟨w.heap.size, o, none⟩) (by show w.heap.size < _; first | omega | (simp only [World.size_alloc, World.size_setCell, World.size_drew]; omega))
    have hz1_0 : w.heap.size < w1.heap.size := by omega
    have b0 : w1.cell? ⟨w.heap.size, 0, none⟩ = some (.int .i64 0) := by simp [go_sem, hc1_0]
    have b1 : w1.cell? ⟨w.heap.size, 1, none⟩ = some (.int .i64 0) := by simp [go_sem, hc1_0]
    have b2 : w1.frozen? ⟨w.heap.size, 0, none⟩ = false := by simp [go_sem, hf1_0]
    have b3 : w1.frozen? ⟨w.heap.size, 1, none⟩ = false := by simp [go_sem, hf1_0]
    have HB : Below w.heap.size w w1 := (by (try show Below _ _ _); repeat (first | (with_reducible refine Below.setCell ?_ (by first | omega | (simp <;> omega)) _) | (with_reducible refine Below.alloc ?_ (by first | omega | (simp <;> omega)) _) | (with_reducible refine Below.drew ?_) | (with_reducible exact Below.refl _ _) | (with_reducible refine below_call ?_ (by assumption) (by first | omega | (simp <;> omega))) | (with_reducible refine below_call ?_ (Drew.below (by assumption) _) (by first | omega | (simp <;> omega)))))
    clear hc1_0 hf1_0 hb1
    go_wp2
    go_loopg [5, 6, 7] (n) (fun gg s5 s6 i wr => ∃ k : Nat, k ≤ n ∧ n - k ≤ gg ∧ i = .int .i64 k ∧ s5 = .int .i64 (sumR (xs.take k)).lo ∧ s6 = .int .i64 (sumR (xs.take k)).hi ∧ Aside (Drew w1 wr))
    case atStart => exact ⟨0, Nat.zero_le _, Nat.le_refl _, rfl, rfl, rfl, Drew.refl _⟩
    case round =>
      obtain ⟨k, hk, hg, rfl, rfl, rfl, hd⟩ := hrel
      have hdb := hd.out.below w1.heap.size
      have hsum := sumR_bound xs (-1000000000000000) 1000000000000000 k (by have := hn.out; omega) (fun j hj => by have := (okR_iff _).1 (HOK.out j (by have := hn.out; omega)); omega)
      by_cases hlt : k < n
      · obtain ⟨b, o, rfl, _, hlb, hc⟩ := HX.out (by have := hn.out; omega)
        have hlb1 : b < w1.heap.size := by omega
        have x0 := (hdb.cell (p := ⟨b, o + k * 2 + 0, none⟩) hlb1).trans ((HB.cell (p := ⟨b, o + k * 2 + 0, none⟩) hlb).trans (hc k 0 (by have := hn.out; omega) (by omega)))
        have x1 := (hdb.cell (p := ⟨b, o + k * 2 + 1, none⟩) hlb1).trans ((HB.cell (p := ⟨b, o + k * 2 + 1, none⟩) hlb).trans (hc k 1 (by have := hn.out; omega) (by omega)))
        have hsn := sumR_snoc xs k (by have := hn.out; omega)
        have okk := (okR_iff _).1 (HOK.out k (by have := hn.out; omega))
        clear hc hdb
        generalize xs[k]?.getD R.d = x at x0 x1 hsn okk
        obtain ⟨p0, p1⟩ := x
        simp only [R.cell, Nat.add_zero, if_true, Nat.one_ne_zero, if_false] at x0 x1 okk
        generalize hS : sumR (xs.take k) = S at hsum hsn ⊢
        obtain ⟨s0, s1⟩ := S
        have Hsn := Lib.hid hsn
        clear hsn hS
        simp only at hsum ⊢
        have hw0 : IntKind.i64.wrap (s0 + p0) = s0 + p0 := by rw [IntKind.wrap_i64]; omega
        have hw1 : IntKind.i64.wrap (s1 + p1) = s1 + p1 := by rw [IntKind.wrap_i64]; omega
        have hltz : (k : Int) < (n : Int) := by omega
        have hk0 : (0 : Int) ≤ (k : Int) := by omega
        go_wp2_with fail
        go_quiet (fail)
        go_wp2
        go_roundg (n - (k + 1))
        case measure => omega
        case rel => exact ⟨k + 1, by omega, by omega, by go_num, by rw [Hsn.out], by rw [Hsn.out], (by obtain ⟨m, hm⟩ := hd.out; exact ⟨m + _, by rw [hm]; exact (World.drewN_drewN _ _ _)⟩)⟩
      · have hltz : ¬ (k : Int) < (n : Int) := by omega
        have hke : k = n := by omega
        subst hke
        have htk : xs.take k = xs := List.take_of_length_le (by have := hn.out; omega)
        rw [htk]
        have g0 := (hdb.cell (p := ⟨w.heap.size, 0, none⟩) hz1_0).trans b0
        have g1 := (hdb.cell (p := ⟨w.heap.size, 1, none⟩) hz1_0).trans b1
        have g2 := (hdb.frozen (p := ⟨w.heap.size, 0, none⟩) hz1_0).trans b2
        have g3 := (hdb.frozen (p := ⟨w.heap.size, 1, none⟩) hz1_0).trans b3
        have HBr : Below w.heap.size w wr := HB.trans (hd.out.below _)
        have hzr : w.heap.size < wr.heap.size := by have := hd.out.size; omega
        have hr := Hres.out
        generalize sumR xs = S at hr ⊢
        obtain ⟨s0, s1⟩ := S
        simp only at hr ⊢
        have hF := fun W => fits_any s0 s1 W
        generalize madeS s0 s1 = rr at hF hr
        subst hr
        unfold RE at hF
        clear hdb b0 b1 b2 b3 hsum htk
        go_wp2_with fail
        refine (hF _).mono ?_
        rintro e w2 ⟨rfl, hb2⟩
        have hz2 := hb2.size
        try simp only [World.size_alloc, World.size_setCell, World.size_drew] at hz2
        have k0 := (hb2.cell (p := ⟨w.heap.size, 0, none⟩) hzr).trans g0
        have k1 := (hb2.cell (p := ⟨w.heap.size, 1, none⟩) hzr).trans g1
        have k2 := (hb2.frozen (p := ⟨w.heap.size, 0, none⟩) hzr).trans g2
        have k3 := (hb2.frozen (p := ⟨w.heap.size, 1, none⟩) hzr).trans g3
        go_wp2
        refine bodyPost_ret (v := .tuple #[.agg #[.int .i64 rr.1.lo, .int .i64 rr.1.hi], .int .i64 rr.2]) (by simp [results, Try.results75, go_sem, cell_set, k0, k1]) rfl ⟨rfl, (by (try show Below _ _ _); repeat (first | (with_reducible refine Below.setCell ?_ (by first | omega | (simp <;> omega)) _) | (with_reducible refine Below.alloc ?_ (by first | omega | (simp <;> omega)) _) | (with_reducible refine Below.drew ?_) | (with_reducible exact Below.refl _ _) | (with_reducible refine below_call ?_ (by assumption) (by first | omega | (simp <;> omega))) | (with_reducible refine below_call ?_ (Drew.below (by assumption) _) (by first | omega | (simp <;> omega)))))⟩
  · have e : sumS xs = (⟨0, 0⟩, checkS xs) := by unfold sumS; rw [if_neg h0]
    rw [e]
    generalize checkS xs = ck at hC h0 ⊢
    have hck : (ck != 0) = true := by rw [bne_iff_ne]; exact h0
    clear h0 e hx
    go_enter Try.func75, Try.ntmps75
    go_wp2_with fail
    refine (hC _ ((Below.refl _ _).alloc (Nat.le_refl _) _)).mono ?_
    rintro e w1 ⟨rfl, hb1⟩
    have hz1 := hb1.size
    try simp only [World.size_alloc, World.size_setCell, World.size_drew] at hz1
    have hc1_0 := fun o => hb1.cell (p := ⟨w.heap.size, o, none⟩) (by show w.heap.size < _; first | omega | (simp only [World.size_alloc, World.size_setCell, World.size_drew]; omega))
    have hf1_0 := fun o => hb1.frozen (p := ⟨w.heap.size, o, none⟩) (by show w.heap.size < _; first | omega | (simp only [World.size_alloc, World.size_setCell, World.size_drew]; omega))
    have hz1_0 : w.heap.size < w1.heap.size := by omega
    go_wp2
    refine bodyPost_ret (v := .tuple #[.agg #[.int .i64 0, .int .i64 0], .int .i64 ck]) (by simp [results, Try.results75, go_sem, cell_set, hc1_0]) rfl ⟨rfl, (by (try show Below _ _ _); repeat (first | (with_reducible refine Below.setCell ?_ (by first | omega | (simp <;> omega)) _) | (with_reducible refine Below.alloc ?_ (by first | omega | (simp <;> omega)) _) | (with_reducible refine Below.drew ?_) | (with_reducible exact Below.refl _ _) | (with_reducible refine below_call ?_ (by assumption) (by first | omega | (simp <;> omega))) | (with_reducible refine below_call ?_ (Drew.below (by assumption) _) (by first | omega | (simp <;> omega)))))⟩

set_option maxRecDepth 100000 in
set_option maxHeartbeats 1000000 in
theorem refLess_any (a0 a1 b0 b1 : Int) (w : World) :
    Calls Try.prog 79 #[.agg #[.int .i64 a0, .int .i64 a1], .agg #[.int .i64 b0, .int .i64 b1]] w fun e w' => e = .returned (RE (lessS ⟨a0, a1⟩ ⟨b0, b1⟩)) ∧ Below w.heap.size w w' := by
  have h1 := fun W => refRange_any a0 a1 W
  have h2 := fun W => refRange_any b0 b1 W
  unfold lessS
  cases ha : okR ⟨a0, a1⟩ with
  | false =>
    rw [ha] at h1
    rw [if_pos (.inl rfl)]
    clear ha
    go_enter Try.func79, Try.ntmps79
    go_wp2_with fail
    refine (h1 _).mono ?_
    rintro e w1 ⟨rfl, hb1⟩
    have hz1 := hb1.size
    try simp only [World.size_alloc, World.size_setCell, World.size_drew] at hz1
    have hc1_0 := fun o => hb1.cell (p := ⟨w.heap.size, o, none⟩) (by show w.heap.size < _; first | omega | (simp only [World.size_alloc, World.size_setCell, World.size_drew]; omega))
    have hf1_0 := fun o => hb1.frozen (p := ⟨w.heap.size, o, none⟩) (by show w.heap.size < _; first | omega | (simp only [World.size_alloc, World.size_setCell, World.size_drew]; omega))
    have hz1_0 : w.heap.size < w1.heap.size := by omega
    have hc1_1 := fun o => hb1.cell (p := ⟨w.heap.size + 1, o, none⟩) (by show w.heap.size + 1 < _; first | omega | (simp only [World.size_alloc, World.size_setCell, World.size_drew]; omega))
    have hf1_1 := fun o => hb1.frozen (p := ⟨w.heap.size + 1, o, none⟩) (by show w.heap.size + 1 < _; first | omega | (simp only [World.size_alloc, World.size_setCell, World.size_drew]; omega))
    have hz1_1 : w.heap.size + 1 < w1.heap.size := by omega
    have hc1_2 := fun o => hb1.cell (p := ⟨w.heap.size + 1 + 1, o, none⟩) (by show w.heap.size + 1 + 1 < _; first | omega | (simp only [World.size_alloc, World.size_setCell, World.size_drew]; omega))
    have hf1_2 := fun o => hb1.frozen (p := ⟨w.heap.size + 1 + 1, o, none⟩) (by show w.heap.size + 1 + 1 < _; first | omega | (simp only [World.size_alloc, World.size_setCell, World.size_drew]; omega))
    have hz1_2 : w.heap.size + 1 + 1 < w1.heap.size := by omega
    go_wp2
    refine bodyPost_ret (v := .tuple #[.agg #[.int .i64 0, .int .i64 0], .int .i64 2]) (by simp [results, Try.results79, go_sem, cell_set, hc1_0, hc1_1, hc1_2]) rfl ⟨rfl, (by (try show Below _ _ _); repeat (first | (with_reducible refine Below.setCell ?_ (by first | omega | (simp <;> omega)) _) | (with_reducible refine Below.alloc ?_ (by first | omega | (simp <;> omega)) _) | (with_reducible refine Below.drew ?_) | (with_reducible exact Below.refl _ _) | (with_reducible refine below_call ?_ (by assumption) (by first | omega | (simp <;> omega))) | (with_reducible refine below_call ?_ (Drew.below (by assumption) _) (by first | omega | (simp <;> omega)))))⟩
  | true =>
    rw [ha] at h1
    cases hb : okR ⟨b0, b1⟩ with
    | false =>
      rw [hb] at h2
      rw [if_pos (.inr rfl)]
      clear ha hb
      go_enter Try.func79, Try.ntmps79
      go_wp2_with fail
      refine (h1 _).mono ?_
      rintro e w1 ⟨rfl, hb1⟩
      have hz1 := hb1.size
      try simp only [World.size_alloc, World.size_setCell, World.size_drew] at hz1
      have hc1_0 := fun o => hb1.cell (p := ⟨w.heap.size, o, none⟩) (by show w.heap.size < _; first | omega | (simp only [World.size_alloc, World.size_setCell, World.size_drew]; omega))
      have hf1_0 := fun o => hb1.frozen (p := ⟨w.heap.size, o, none⟩) (by show w.heap.size < _; first | omega | (simp only [World.size_alloc, World.size_setCell, World.size_drew]; omega))
      have hz1_0 : w.heap.size < w1.heap.size := by omega
      have hc1_1 := fun o => hb1.cell (p := ⟨w.heap.size + 1, o, none⟩) (by show w.heap.size + 1 < _; first | omega | (simp only [World.size_alloc, World.size_setCell, World.size_drew]; omega))
      have hf1_1 := fun o => hb1.frozen (p := ⟨w.heap.size + 1, o, none⟩) (by show w.heap.size + 1 < _; first | omega | (simp only [World.size_alloc, World.size_setCell, World.size_drew]; omega))
      have hz1_1 : w.heap.size + 1 < w1.heap.size := by omega
      have hc1_2 := fun o => hb1.cell (p := ⟨w.heap.size + 1 + 1, o, none⟩) (by show w.heap.size + 1 + 1 < _; first | omega | (simp only [World.size_alloc, World.size_setCell, World.size_drew]; omega))
      have hf1_2 := fun o => hb1.frozen (p := ⟨w.heap.size + 1 + 1, o, none⟩) (by show w.heap.size + 1 + 1 < _; first | omega | (simp only [World.size_alloc, World.size_setCell, World.size_drew]; omega))
      have hz1_2 : w.heap.size + 1 + 1 < w1.heap.size := by omega
      go_wp2_with fail
      refine (h2 _).mono ?_
      rintro e w2 ⟨rfl, hb2⟩
      have hz2 := hb2.size
      try simp only [World.size_alloc, World.size_setCell, World.size_drew] at hz2
      have hc2_0 := fun o => hb2.cell (p := ⟨w.heap.size, o, none⟩) (by show w.heap.size < _; first | omega | (simp only [World.size_alloc, World.size_setCell, World.size_drew]; omega))
      have hf2_0 := fun o => hb2.frozen (p := ⟨w.heap.size, o, none⟩) (by show w.heap.size < _; first | omega | (simp only [World.size_alloc, World.size_setCell, World.size_drew]; omega))
      have hz2_0 : w.heap.size < w2.heap.size := by omega
      have hc2_1 := fun o => hb2.cell (p := ⟨w.heap.size + 1, o, none⟩) (by show w.heap.size + 1 < _; first | omega | (simp only [World.size_alloc, World.size_setCell, World.size_drew]; omega))
      have hf2_1 := fun o => hb2.frozen (p := ⟨w.heap.size + 1, o, none⟩) (by show w.heap.size + 1 < _; first | omega | (simp only [World.size_alloc, World.size_setCell, World.size_drew]; omega))
      have hz2_1 : w.heap.size + 1 < w2.heap.size := by omega
      have hc2_2 := fun o => hb2.cell (p := ⟨w.heap.size + 1 + 1, o, none⟩) (by show w.heap.size + 1 + 1 < _; first | omega | (simp only [World.size_alloc, World.size_setCell, World.size_drew]; omega))
      have hf2_2 := fun o => hb2.frozen (p := ⟨w.heap.size + 1 + 1, o, none⟩) (by show w.heap.size + 1 + 1 < _; first | omega | (simp only [World.size_alloc, World.size_setCell, World.size_drew]; omega))
      have hz2_2 : w.heap.size + 1 + 1 < w2.heap.size := by omega
      go_wp2
      refine bodyPost_ret (v := .tuple #[.agg #[.int .i64 0, .int .i64 0], .int .i64 2]) (by simp [results, Try.results79, go_sem, cell_set, hc1_0, hc1_1, hc1_2, hc2_0, hc2_1, hc2_2, hz1_0, hz1_1, hz1_2]) rfl ⟨rfl, (by (try show Below _ _ _); repeat (first | (with_reducible refine Below.setCell ?_ (by first | omega | (simp <;> omega)) _) | (with_reducible refine Below.alloc ?_ (by first | omega | (simp <;> omega)) _) | (with_reducible refine Below.drew ?_) | (with_reducible exact Below.refl _ _) | (with_reducible refine below_call ?_ (by assumption) (by first | omega | (simp <;> omega))) | (with_reducible refine below_call ?_ (Drew.below (by assumption) _) (by first | omega | (simp <;> omega)))))⟩
    | true =>
      rw [hb] at h2
      have k0 := (okR_iff _).1 ha
      have k1 := (okR_iff _).1 hb
      simp only at k0 k1
      rw [if_neg (by simp)]
      have hm := fun W => fits_any (a0 - b1) (a1 - b0) W
      simp only
      generalize madeS (a0 - b1) (a1 - b0) = rr at hm ⊢
      unfold RE at hm ⊢
      clear ha hb
      go_enter Try.func79, Try.ntmps79
      go_wp2_with fail
      refine (h1 _).mono ?_
      rintro e w1 ⟨rfl, hb1⟩
      have hz1 := hb1.size
      try simp only [World.size_alloc, World.size_setCell, World.size_drew] at hz1
      have hc1_0 := fun o => hb1.cell (p := ⟨w.heap.size, o, none⟩) (by show w.heap.size < _; first | omega | (simp only [World.size_alloc, World.size_setCell, World.size_drew]; omega))
      have hf1_0 := fun o => hb1.frozen (p := ⟨w.heap.size, o, none⟩) (by show w.heap.size < _; first | omega | (simp only [World.size_alloc, World.size_setCell, World.size_drew]; omega))
      have hz1_0 : w.heap.size < w1.heap.size := by omega
      have hc1_1 := fun o => hb1.cell (p := ⟨w.heap.size + 1, o, none⟩) (by show w.heap.size + 1 < _; first | omega | (simp only [World.size_alloc, World.size_setCell, World.size_drew]; omega))
      have hf1_1 := fun o => hb1.frozen (p := ⟨w.heap.size + 1, o, none⟩) (by show w.heap.size + 1 < _; first | omega | (simp only [World.size_alloc, World.size_setCell, World.size_drew]; omega))
      have hz1_1 : w.heap.size + 1 < w1.heap.size := by omega
      have hc1_2 := fun o => hb1.cell (p := ⟨w.heap.size + 1 + 1, o, none⟩) (by show w.heap.size + 1 + 1 < _; first | omega | (simp only [World.size_alloc, World.size_setCell, World.size_drew]; omega))
      have hf1_2 := fun o => hb1.frozen (p := ⟨w.heap.size + 1 + 1, o, none⟩) (by show w.heap.size + 1 + 1 < _; first | omega | (simp only [World.size_alloc, World.size_setCell, World.size_drew]; omega))
      have hz1_2 : w.heap.size + 1 + 1 < w1.heap.size := by omega
      go_wp2_with fail
      refine (h2 _).mono ?_
      rintro e w2 ⟨rfl, hb2⟩
      have hz2 := hb2.size
      try simp only [World.size_alloc, World.size_setCell, World.size_drew] at hz2
      have hc2_0 := fun o => hb2.cell (p := ⟨w.heap.size, o, none⟩) (by show w.heap.size < _; first | omega | (simp only [World.size_alloc, World.size_setCell, World.size_drew]; omega))
      have hf2_0 := fun o => hb2.frozen (p := ⟨w.heap.size, o, none⟩) (by show w.heap.size < _; first | omega | (simp only [World.size_alloc, World.size_setCell, World.size_drew]; omega))
      have hz2_0 : w.heap.size < w2.heap.size := by omega
      have hc2_1 := fun o => hb2.cell (p := ⟨w.heap.size + 1, o, none⟩) (by show w.heap.size + 1 < _; first | omega | (simp only [World.size_alloc, World.size_setCell, World.size_drew]; omega))
      have hf2_1 := fun o => hb2.frozen (p := ⟨w.heap.size + 1, o, none⟩) (by show w.heap.size + 1 < _; first | omega | (simp only [World.size_alloc, World.size_setCell, World.size_drew]; omega))
      have hz2_1 : w.heap.size + 1 < w2.heap.size := by omega
      have hc2_2 := fun o => hb2.cell (p := ⟨w.heap.size + 1 + 1, o, none⟩) (by show w.heap.size + 1 + 1 < _; first | omega | (simp only [World.size_alloc, World.size_setCell, World.size_drew]; omega))
      have hf2_2 := fun o => hb2.frozen (p := ⟨w.heap.size + 1 + 1, o, none⟩) (by show w.heap.size + 1 + 1 < _; first | omega | (simp only [World.size_alloc, World.size_setCell, World.size_drew]; omega))
      have hz2_2 : w.heap.size + 1 + 1 < w2.heap.size := by omega
      go_wp2_with fail
      refine (hm _).mono ?_
      rintro e w3 ⟨rfl, hb3⟩
      have hz3 := hb3.size
      try simp only [World.size_alloc, World.size_setCell, World.size_drew] at hz3
      have hc3_0 := fun o => hb3.cell (p := ⟨w.heap.size, o, none⟩) (by show w.heap.size < _; first | omega | (simp only [World.size_alloc, World.size_setCell, World.size_drew]; omega))
      have hf3_0 := fun o => hb3.frozen (p := ⟨w.heap.size, o, none⟩) (by show w.heap.size < _; first | omega | (simp only [World.size_alloc, World.size_setCell, World.size_drew]; omega))
      have hz3_0 : w.heap.size < w3.heap.size := by omega
      have hc3_1 := fun o => hb3.cell (p := ⟨w.heap.size + 1, o, none⟩) (by show w.heap.size + 1 < _; first | omega | (simp only [World.size_alloc, World.size_setCell, World.size_drew]; omega))
      have hf3_1 := fun o => hb3.frozen (p := ⟨w.heap.size + 1, o, none⟩) (by show w.heap.size + 1 < _; first | omega | (simp only [World.size_alloc, World.size_setCell, World.size_drew]; omega))
      have hz3_1 : w.heap.size + 1 < w3.heap.size := by omega
      have hc3_2 := fun o => hb3.cell (p := ⟨w.heap.size + 1 + 1, o, none⟩) (by show w.heap.size + 1 + 1 < _; first | omega | (simp only [World.size_alloc, World.size_setCell, World.size_drew]; omega))
      have hf3_2 := fun o => hb3.frozen (p := ⟨w.heap.size + 1 + 1, o, none⟩) (by show w.heap.size + 1 + 1 < _; first | omega | (simp only [World.size_alloc, World.size_setCell, World.size_drew]; omega))
      have hz3_2 : w.heap.size + 1 + 1 < w3.heap.size := by omega
      go_wp2
      refine bodyPost_ret (v := .tuple #[.agg #[.int .i64 rr.1.lo, .int .i64 rr.1.hi], .int .i64 rr.2]) (by simp [results, Try.results79, go_sem, cell_set, hc1_0, hc1_1, hc1_2, hc2_0, hc2_1, hc2_2, hc3_0, hc3_1, hc3_2, hz1_0, hz1_1, hz1_2, hz2_0, hz2_1, hz2_2]) rfl ⟨rfl, (by (try show Below _ _ _); repeat (first | (with_reducible refine Below.setCell ?_ (by first | omega | (simp <;> omega)) _) | (with_reducible refine Below.alloc ?_ (by first | omega | (simp <;> omega)) _) | (with_reducible refine Below.drew ?_) | (with_reducible exact Below.refl _ _) | (with_reducible refine below_call ?_ (by assumption) (by first | omega | (simp <;> omega))) | (with_reducible refine below_call ?_ (Drew.below (by assumption) _) (by first | omega | (simp <;> omega)))))⟩

end Go.Proofs.Ytfohdafijfjefaa
