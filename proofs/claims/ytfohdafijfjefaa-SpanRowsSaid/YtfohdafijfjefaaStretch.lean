/- Contract: span.stretch. -/
import Derived.Test.YtfohdafijfjefaaOwn
import Derived.Deep.DeepCutAuto
set_option linter.unusedSimpArgs false
set_option linter.unusedVariables false
namespace Go.Proofs.Ytfohdafijfjefaa
open Go.RowKit Go.Shelf
attribute [local go_sem ↓] Go.wp_at_zero Go.wp_at_succ

def strRise (a b : R) : Int := if b.hi - a.hi < 0 then -(b.hi - a.hi) else b.hi - a.hi
def strLow (a b y : R) : Int := if b.hi - a.hi < 0 then -(y.hi - a.hi) else y.lo - a.hi
def strHigh (a b y : R) : Int := if b.hi - a.hi < 0 then -(y.lo - a.hi) else y.hi - a.hi
def strOut (a b y : R) : R := ⟨max a.lo (a.lo + (ratioS (strLow a b y) (b.lo - a.lo) (strRise a b)).2), min b.lo (a.lo + (ratioS (strHigh a b y) (b.lo - a.lo) (strRise a b)).1)⟩
/-- the places of a stretch -/
def stretchS (a b y : R) : R × Bool :=
  if a.hi = b.hi then (⟨a.lo, b.lo⟩, btw y.lo y.hi [a.hi]) else (strOut a b y, decide ((strOut a b y).lo ≤ (strOut a b y).hi))

structure StI (w : World) (a b y out : R) (wr : World) : Prop where
  below : Below w.heap.size w wr
  size : w.heap.size + 1 + 1 + 1 + 1 < wr.heap.size
  a0 : wr.cell? ⟨w.heap.size, 0, none⟩ = some (.int .i64 a.lo)
  a1 : wr.cell? ⟨w.heap.size, 1, none⟩ = some (.int .i64 a.hi)
  b0 : wr.cell? ⟨w.heap.size + 1, 0, none⟩ = some (.int .i64 b.lo)
  b1 : wr.cell? ⟨w.heap.size + 1, 1, none⟩ = some (.int .i64 b.hi)
  y0 : wr.cell? ⟨w.heap.size + 1 + 1, 0, none⟩ = some (.int .i64 y.lo)
  y1 : wr.cell? ⟨w.heap.size + 1 + 1, 1, none⟩ = some (.int .i64 y.hi)
  r0 : wr.cell? ⟨w.heap.size + 1 + 1 + 1, 0, none⟩ = some (.int .i64 0)
  r1 : wr.cell? ⟨w.heap.size + 1 + 1 + 1, 1, none⟩ = some (.int .i64 0)
  o0 : wr.cell? ⟨w.heap.size + 1 + 1 + 1 + 1, 0, none⟩ = some (.int .i64 out.lo)
  o1 : wr.cell? ⟨w.heap.size + 1 + 1 + 1 + 1, 1, none⟩ = some (.int .i64 out.hi)
  rf : ∀ o, wr.frozen? ⟨w.heap.size + 1 + 1 + 1, o, none⟩ = false
  of : ∀ o, wr.frozen? ⟨w.heap.size + 1 + 1 + 1 + 1, o, none⟩ = false

theorem StI.later {w : World} {a b y out : R} {wr W : World} (h : StI w a b y out wr) (hb : Below wr.heap.size wr W) : StI w a b y out W := by
  obtain ⟨h1, h2, a0, a1, b0, b1, y0, y1, r0, r1, o0, o1, rf, of⟩ := h
  refine ⟨below_call h1 hb (by omega), Nat.lt_of_lt_of_le h2 hb.size, ?_, ?_, ?_, ?_, ?_, ?_, ?_, ?_, ?_, ?_, ?_, ?_⟩
  · exact (hb.cell (by show w.heap.size < _; omega)).trans a0
  · exact (hb.cell (by show w.heap.size < _; omega)).trans a1
  · exact (hb.cell (by show w.heap.size + 1 < _; omega)).trans b0
  · exact (hb.cell (by show w.heap.size + 1 < _; omega)).trans b1
  · exact (hb.cell (by show w.heap.size + 1 + 1 < _; omega)).trans y0
  · exact (hb.cell (by show w.heap.size + 1 + 1 < _; omega)).trans y1
  · exact (hb.cell (by show w.heap.size + 1 + 1 + 1 < _; omega)).trans r0
  · exact (hb.cell (by show w.heap.size + 1 + 1 + 1 < _; omega)).trans r1
  · exact (hb.cell (by show w.heap.size + 1 + 1 + 1 + 1 < _; omega)).trans o0
  · exact (hb.cell (by show w.heap.size + 1 + 1 + 1 + 1 < _; omega)).trans o1
  · intro o; exact (hb.frozen (by show w.heap.size + 1 + 1 + 1 < _; omega)).trans (rf o)
  · intro o; exact (hb.frozen (by show w.heap.size + 1 + 1 + 1 + 1 < _; omega)).trans (of o)

theorem ratio_below (a b c : Int) (ha : -9223372036854775808 < a ∧ a < 9223372036854775808) (hb : -9223372036854775808 < b ∧ b < 9223372036854775808) (hc : 0 < c ∧ c < 9223372036854775808) (w : World) :
    Calls Try.prog 138 #[.int .i64 a, .int .i64 b, .int .i64 c] w fun e w' => e = .returned (.tuple #[.int .i64 (ratioS a b c).1, .int .i64 (ratioS a b c).2]) ∧ Below w.heap.size w w' :=
  (ratio_any a b c ha hb hc w).mono fun _ _ h => ⟨h.1, h.2.below _⟩

theorem ratioS_bd (a b c : Int) : -2000000000000001 ≤ (ratioS a b c).1 ∧ (ratioS a b c).1 ≤ 2000000000000001 ∧ -2000000000000001 ≤ (ratioS a b c).2 ∧ (ratioS a b c).2 ≤ 2000000000000001 := by
  unfold ratioS ratioN
  generalize (decide (a < 0) != decide (b < 0)) = neg
  generalize a.natAbs * b.natAbs / c.toNat = q
  by_cases h : q < 2000000000000000
  · rw [if_pos h]
    split <;> cases neg <;> simp <;> omega
  · rw [if_neg h]; cases neg <;> simp

set_option maxRecDepth 100000 in
set_option maxHeartbeats 4000000 in
theorem stretch_any (a0 a1 b0 b1 y0 y1 : Int) (ha : -1000000000 ≤ a0 ∧ a0 ≤ 1000000000) (ha1 : -1000000000 ≤ a1 ∧ a1 ≤ 1000000000) (hb : -1000000000 ≤ b0 ∧ b0 ≤ 1000000000) (hb1 : -1000000000 ≤ b1 ∧ b1 ≤ 1000000000) (hy : -4000000000000000 ≤ y0 ∧ y0 ≤ 4000000000000000) (hy1 : -4000000000000000 ≤ y1 ∧ y1 ≤ 4000000000000000) (w : World) :
    Calls Try.prog 117 #[.agg #[.int .i64 a0, .int .i64 a1], .agg #[.int .i64 b0, .int .i64 b1], .agg #[.int .i64 y0, .int .i64 y1]] w fun e w' => e = .returned (.tuple #[.agg #[.int .i64 (stretchS ⟨a0, a1⟩ ⟨b0, b1⟩ ⟨y0, y1⟩).1.lo, .int .i64 (stretchS ⟨a0, a1⟩ ⟨b0, b1⟩ ⟨y0, y1⟩).1.hi], .bool (stretchS ⟨a0, a1⟩ ⟨b0, b1⟩ ⟨y0, y1⟩).2]) ∧ Below w.heap.size w w' := by
  by_cases heq : a1 = b1
  · have hs : stretchS ⟨a0, a1⟩ ⟨b0, b1⟩ ⟨y0, y1⟩ = (⟨a0, b0⟩, btw y0 y1 [a1]) := by unfold stretchS; rw [if_pos heq]
    rw [hs]
    have hW := fun (A : Option Addr) (W : World) h => span_within y0 y1 0 A 1 1 [a1] W h rfl one_le
    have hbq : (a1 == b1) = true := by rw [beq_iff_eq]; exact heq
    generalize btw y0 y1 [a1] = res at *
    simp only
    clear hs heq
    go_enter Try.func117, Try.ntmps117
    go_upto_region 3 with (fail)
    obtain ⟨wa, hwa⟩ : ∃ wa, ((((w.alloc (.cells #[.int .i64 a0, .int .i64 a1] 81)).alloc (.cells #[.int .i64 b0, .int .i64 b1] 81)).alloc (.cells #[.int .i64 y0, .int .i64 y1] 23)).alloc (.cells #[.int .i64 0, .int .i64 0] 23)).alloc (.cells #[.int .i64 a0, .int .i64 b0] 23) = wa := ⟨_, rfl⟩
    have I : StI w ⟨a0, a1⟩ ⟨b0, b1⟩ ⟨y0, y1⟩ ⟨a0, b0⟩ wa := by
      rw [← hwa]
      exact { below := (by (try show Below _ _ _); repeat (first | (with_reducible refine Below.setCell ?_ (by first | omega | (simp <;> omega)) _) | (with_reducible refine Below.alloc ?_ (by first | omega | (simp <;> omega)) _) | (with_reducible refine Below.drew ?_) | (with_reducible exact Below.refl _ _) | (with_reducible refine below_call ?_ (by assumption) (by first | omega | (simp <;> omega))) | (with_reducible refine below_call ?_ (Drew.below (by assumption) _) (by first | omega | (simp <;> omega))))), size := (by simp), a0 := (by simp [go_sem]), a1 := (by simp [go_sem]), b0 := (by simp [go_sem]), b1 := (by simp [go_sem]), y0 := (by simp [go_sem]), y1 := (by simp [go_sem]), r0 := (by simp [go_sem]), r1 := (by simp [go_sem]), o0 := (by simp [go_sem]), o1 := (by simp [go_sem]), rf := (by intro o; simp [go_sem]), of := (by intro o; simp [go_sem]) }
    rw [hwa]
    clear hwa
    have I2 := I
    obtain ⟨hbe, hzw4, c_a0, c_a1, c_b0, c_b1, c_y0, c_y1, c_r0, c_r1, c_o0, c_o1, c_rf, c_of⟩ := I
    simp only at c_a0 c_a1 c_b0 c_b1 c_y0 c_y1 c_o0 c_o1
    have c_rf0 := c_rf 0
    have c_rf1 := c_rf 1
    have c_of0 := c_of 0
    have c_of1 := c_of 1
    have hzw : w.heap.size < wa.heap.size := by omega
    have hzw1 : w.heap.size + 1 < wa.heap.size := by omega
    have hzw2 : w.heap.size + 1 + 1 < wa.heap.size := by omega
    have hzw3 : w.heap.size + 1 + 1 + 1 < wa.heap.size := by omega
    clear c_rf c_of
    have hne2 : ¬ w.heap.size + 1 + 1 = w.heap.size := by omega
    have hne3 : ¬ w.heap.size + 1 + 1 + 1 = w.heap.size := by omega
    have hne4 : ¬ w.heap.size + 1 + 1 + 1 + 1 = w.heap.size := by omega
    go_region_held3 (fun w' => w'.cell? ⟨w.heap.size + 1 + 1 + 1 + 1, 0, none⟩ = some (.int .i64 a0) ∧ w'.cell? ⟨w.heap.size + 1 + 1 + 1 + 1, 1, none⟩ = some (.int .i64 b0) ∧ w'.cell? ⟨w.heap.size + 1 + 1, 0, none⟩ = some (.int .i64 y0) ∧ w'.cell? ⟨w.heap.size + 1 + 1, 1, none⟩ = some (.int .i64 y1) ∧ w'.cell? ⟨w.heap.size, 1, none⟩ = some (.int .i64 a1)) (first | ((try refine ⟨?_, ?_, ?_, ?_, ?_⟩) <;> (simp [go_sem, cell_set, hne3, hq0, hq1, hq2, hq3, c_a1, c_y0, c_y1, c_o0, c_o1, hzw, hzw1, hzw2, hzw3, hzw4, hzx0, hzx1, hzx2, hzx3, hzx4]; done)) | ((try refine ⟨?_, ?_, ?_, ?_, ?_⟩) <;> (simp [go_sem, cell_set, c_a1, c_y0, c_y1, c_o0, c_o1, hzw, hzw1, hzw2, hzw3, hzw4]; done)) | go_keep)
      ((go_at_call 90; refine (hW _ _ (Ints.of1 (by simp [go_sem]) (by simp))).mono ?_; rintro e w3 ⟨rfl, hb3⟩; have hz3 := hb3.size; (try simp only [World.size_alloc, World.size_setCell, World.size_drew] at hz3); have hc3_0 := fun o => hb3.cell (p := ⟨w.heap.size, o, none⟩) (by show w.heap.size < _; first | omega | (simp only [World.size_alloc, World.size_setCell, World.size_drew]; omega)); have hf3_0 := fun o => hb3.frozen (p := ⟨w.heap.size, o, none⟩) (by show w.heap.size < _; first | omega | (simp only [World.size_alloc, World.size_setCell, World.size_drew]; omega)); have hz3_0 : w.heap.size < w3.heap.size := (by omega); have hc3_1 := fun o => hb3.cell (p := ⟨w.heap.size + 1, o, none⟩) (by show w.heap.size + 1 < _; first | omega | (simp only [World.size_alloc, World.size_setCell, World.size_drew]; omega)); have hf3_1 := fun o => hb3.frozen (p := ⟨w.heap.size + 1, o, none⟩) (by show w.heap.size + 1 < _; first | omega | (simp only [World.size_alloc, World.size_setCell, World.size_drew]; omega)); have hz3_1 : w.heap.size + 1 < w3.heap.size := (by omega); have hc3_2 := fun o => hb3.cell (p := ⟨w.heap.size + 1 + 1, o, none⟩) (by show w.heap.size + 1 + 1 < _; first | omega | (simp only [World.size_alloc, World.size_setCell, World.size_drew]; omega)); have hf3_2 := fun o => hb3.frozen (p := ⟨w.heap.size + 1 + 1, o, none⟩) (by show w.heap.size + 1 + 1 < _; first | omega | (simp only [World.size_alloc, World.size_setCell, World.size_drew]; omega)); have hz3_2 : w.heap.size + 1 + 1 < w3.heap.size := (by omega); have hc3_3 := fun o => hb3.cell (p := ⟨w.heap.size + 1 + 1 + 1, o, none⟩) (by show w.heap.size + 1 + 1 + 1 < _; first | omega | (simp only [World.size_alloc, World.size_setCell, World.size_drew]; omega)); have hf3_3 := fun o => hb3.frozen (p := ⟨w.heap.size + 1 + 1 + 1, o, none⟩) (by show w.heap.size + 1 + 1 + 1 < _; first | omega | (simp only [World.size_alloc, World.size_setCell, World.size_drew]; omega)); have hz3_3 : w.heap.size + 1 + 1 + 1 < w3.heap.size := (by omega); have hc3_4 := fun o => hb3.cell (p := ⟨w.heap.size + 1 + 1 + 1 + 1, o, none⟩) (by show w.heap.size + 1 + 1 + 1 + 1 < _; first | omega | (simp only [World.size_alloc, World.size_setCell, World.size_drew]; omega)); have hf3_4 := fun o => hb3.frozen (p := ⟨w.heap.size + 1 + 1 + 1 + 1, o, none⟩) (by show w.heap.size + 1 + 1 + 1 + 1 < _; first | omega | (simp only [World.size_alloc, World.size_setCell, World.size_drew]; omega)); have hz3_4 : w.heap.size + 1 + 1 + 1 + 1 < w3.heap.size := (by omega); have hq0 := hc3_0; have hq1 := hc3_2; have hq2 := hc3_3; have hq3 := hc3_4; have hzx0 := hz3_0; have hzx1 := hz3_1; have hzx2 := hz3_2; have hzx3 := hz3_3; have hzx4 := hz3_4))
    go_wp2
    refine bodyPost_ret (v := .tuple #[.agg #[.int .i64 a0, .int .i64 b0], .bool res]) (by simp [results, Try.results117, go_sem, cell_set, hc3_3, c_r0, c_r1, hzw3, hzx3]) rfl ⟨rfl, (by (try show Below _ _ _); repeat (first | (with_reducible refine Below.setCell ?_ (by first | omega | (simp <;> omega)) _) | (with_reducible refine Below.alloc ?_ (by first | omega | (simp <;> omega)) _) | (with_reducible refine Below.drew ?_) | (with_reducible exact Below.refl _ _) | (with_reducible refine below_call ?_ (by assumption) (by first | omega | (simp <;> omega))) | (with_reducible refine below_call ?_ (Drew.below (by assumption) _) (by first | omega | (simp <;> omega)))))⟩
  · have hbq : (a1 == b1) = false := by rw [beq_eq_false_iff_ne]; exact heq
    have hs : stretchS ⟨a0, a1⟩ ⟨b0, b1⟩ ⟨y0, y1⟩ = (strOut ⟨a0, a1⟩ ⟨b0, b1⟩ ⟨y0, y1⟩, decide ((strOut ⟨a0, a1⟩ ⟨b0, b1⟩ ⟨y0, y1⟩).lo ≤ (strOut ⟨a0, a1⟩ ⟨b0, b1⟩ ⟨y0, y1⟩).hi)) := by unfold stretchS; rw [if_neg heq]
    rw [hs]
    clear hs
    by_cases hneg : b1 - a1 < 0
    · have e1 : strRise ⟨a0, a1⟩ ⟨b0, b1⟩ = -(b1 - a1) := by unfold strRise; rw [if_pos hneg]
      have e2 : strLow ⟨a0, a1⟩ ⟨b0, b1⟩ ⟨y0, y1⟩ = -(y1 - a1) := by unfold strLow; rw [if_pos hneg]
      have e3 : strHigh ⟨a0, a1⟩ ⟨b0, b1⟩ ⟨y0, y1⟩ = -(y0 - a1) := by unfold strHigh; rw [if_pos hneg]
      unfold strOut
      rw [e1, e2, e3]
      have hc0 : 0 < -(b1 - a1) := by omega
      clear e1 e2 e3 heq
      simp only
      have hr1 := fun W => ratio_below (-(y1 - a1)) (b0 - a0) (-(b1 - a1)) (by omega) (by omega) (by omega) W
      have hr2 := fun W => ratio_below (-(y0 - a1)) (b0 - a0) (-(b1 - a1)) (by omega) (by omega) (by omega) W
      have q1 := ratioS_bd (-(y1 - a1)) (b0 - a0) (-(b1 - a1))
      have q2 := ratioS_bd (-(y0 - a1)) (b0 - a0) (-(b1 - a1))
      generalize ratioS (-(y1 - a1)) (b0 - a0) (-(b1 - a1)) = p1 at *
      generalize ratioS (-(y0 - a1)) (b0 - a0) (-(b1 - a1)) = p2 at *
      obtain ⟨f0, f1⟩ := p1
      obtain ⟨g0, g1⟩ := p2
      simp only at q1 q2 hr1 hr2 ⊢
      generalize hmx : max a0 (a0 + f1) = mx
      generalize hmn : min b0 (a0 + g0) = mn
      have Hmx := Lib.hid hmx
      have Hmn := Lib.hid hmn
      clear hmx hmn
      go_enter Try.func117, Try.ntmps117
      go_upto_region 4 with (fail)
      obtain ⟨wa, hwa⟩ : ∃ wa, ((((w.alloc (.cells #[.int .i64 a0, .int .i64 a1] 81)).alloc (.cells #[.int .i64 b0, .int .i64 b1] 81)).alloc (.cells #[.int .i64 y0, .int .i64 y1] 23)).alloc (.cells #[.int .i64 0, .int .i64 0] 23)).alloc (.cells #[.int .i64 a0, .int .i64 b0] 23) = wa := ⟨_, rfl⟩
      have I : StI w ⟨a0, a1⟩ ⟨b0, b1⟩ ⟨y0, y1⟩ ⟨a0, b0⟩ wa := by
        rw [← hwa]
        exact { below := (by (try show Below _ _ _); repeat (first | (with_reducible refine Below.setCell ?_ (by first | omega | (simp <;> omega)) _) | (with_reducible refine Below.alloc ?_ (by first | omega | (simp <;> omega)) _) | (with_reducible refine Below.drew ?_) | (with_reducible exact Below.refl _ _) | (with_reducible refine below_call ?_ (by assumption) (by first | omega | (simp <;> omega))) | (with_reducible refine below_call ?_ (Drew.below (by assumption) _) (by first | omega | (simp <;> omega))))), size := (by simp), a0 := (by simp [go_sem]), a1 := (by simp [go_sem]), b0 := (by simp [go_sem]), b1 := (by simp [go_sem]), y0 := (by simp [go_sem]), y1 := (by simp [go_sem]), r0 := (by simp [go_sem]), r1 := (by simp [go_sem]), o0 := (by simp [go_sem]), o1 := (by simp [go_sem]), rf := (by intro o; simp [go_sem]), of := (by intro o; simp [go_sem]) }
      rw [hwa]
      clear hwa
      have I2 := I
      obtain ⟨hbe, hzw4, c_a0, c_a1, c_b0, c_b1, c_y0, c_y1, c_r0, c_r1, c_o0, c_o1, c_rf, c_of⟩ := I
      simp only at c_a0 c_a1 c_b0 c_b1 c_y0 c_y1 c_o0 c_o1
      have c_rf0 := c_rf 0
      have c_rf1 := c_rf 1
      have c_of0 := c_of 0
      have c_of1 := c_of 1
      have hzw : w.heap.size < wa.heap.size := by omega
      have hzw1 : w.heap.size + 1 < wa.heap.size := by omega
      have hzw2 : w.heap.size + 1 + 1 < wa.heap.size := by omega
      have hzw3 : w.heap.size + 1 + 1 + 1 < wa.heap.size := by omega
      clear c_rf c_of
      have hne2 : ¬ w.heap.size + 1 + 1 = w.heap.size := by omega
      have hne3 : ¬ w.heap.size + 1 + 1 + 1 = w.heap.size := by omega
      have hne4 : ¬ w.heap.size + 1 + 1 + 1 + 1 = w.heap.size := by omega
      have J := Lib.hid I2
      clear I2
      go_quiet (fail)
      generalize hwq2 : World.drewN wa _ = w2
      have hd2 : Drew wa w2 := ⟨_, hwq2.symm⟩
      have hb2 : Below wa.heap.size wa w2 := hd2.below _
      have hz2 := hb2.size
      clear hwq2
      have hc2_0 := fun o => hb2.cell (p := ⟨w.heap.size, o, none⟩) (by show w.heap.size < _; omega)
      have hf2_0 := fun o => hb2.frozen (p := ⟨w.heap.size, o, none⟩) (by show w.heap.size < _; omega)
      have hz2_0 : w.heap.size < w2.heap.size := by omega
      have hc2_1 := fun o => hb2.cell (p := ⟨w.heap.size + 1, o, none⟩) (by show w.heap.size + 1 < _; omega)
      have hf2_1 := fun o => hb2.frozen (p := ⟨w.heap.size + 1, o, none⟩) (by show w.heap.size + 1 < _; omega)
      have hz2_1 : w.heap.size + 1 < w2.heap.size := by omega
      have hc2_2 := fun o => hb2.cell (p := ⟨w.heap.size + 1 + 1, o, none⟩) (by show w.heap.size + 1 + 1 < _; omega)
      have hf2_2 := fun o => hb2.frozen (p := ⟨w.heap.size + 1 + 1, o, none⟩) (by show w.heap.size + 1 + 1 < _; omega)
      have hz2_2 : w.heap.size + 1 + 1 < w2.heap.size := by omega
      have hc2_3 := fun o => hb2.cell (p := ⟨w.heap.size + 1 + 1 + 1, o, none⟩) (by show w.heap.size + 1 + 1 + 1 < _; omega)
      have hf2_3 := fun o => hb2.frozen (p := ⟨w.heap.size + 1 + 1 + 1, o, none⟩) (by show w.heap.size + 1 + 1 + 1 < _; omega)
      have hz2_3 : w.heap.size + 1 + 1 + 1 < w2.heap.size := by omega
      have hc2_4 := fun o => hb2.cell (p := ⟨w.heap.size + 1 + 1 + 1 + 1, o, none⟩) (by show w.heap.size + 1 + 1 + 1 + 1 < _; omega)
      have hf2_4 := fun o => hb2.frozen (p := ⟨w.heap.size + 1 + 1 + 1 + 1, o, none⟩) (by show w.heap.size + 1 + 1 + 1 + 1 < _; omega)
      have hz2_4 : w.heap.size + 1 + 1 + 1 + 1 < w2.heap.size := by omega
      go_wp2_with fail
      go_quiet (fail)
      generalize hwq3 : World.drewN w2 _ = w3
      have hd3 : Drew w2 w3 := ⟨_, hwq3.symm⟩
      have hb3 : Below w2.heap.size w2 w3 := hd3.below _
      have hz3 := hb3.size
      clear hwq3
      have hc3_0 := fun o => hb3.cell (p := ⟨w.heap.size, o, none⟩) (by show w.heap.size < _; omega)
      have hf3_0 := fun o => hb3.frozen (p := ⟨w.heap.size, o, none⟩) (by show w.heap.size < _; omega)
      have hz3_0 : w.heap.size < w3.heap.size := by omega
      have hc3_1 := fun o => hb3.cell (p := ⟨w.heap.size + 1, o, none⟩) (by show w.heap.size + 1 < _; omega)
      have hf3_1 := fun o => hb3.frozen (p := ⟨w.heap.size + 1, o, none⟩) (by show w.heap.size + 1 < _; omega)
      have hz3_1 : w.heap.size + 1 < w3.heap.size := by omega
      have hc3_2 := fun o => hb3.cell (p := ⟨w.heap.size + 1 + 1, o, none⟩) (by show w.heap.size + 1 + 1 < _; omega)
      have hf3_2 := fun o => hb3.frozen (p := ⟨w.heap.size + 1 + 1, o, none⟩) (by show w.heap.size + 1 + 1 < _; omega)
      have hz3_2 : w.heap.size + 1 + 1 < w3.heap.size := by omega
      have hc3_3 := fun o => hb3.cell (p := ⟨w.heap.size + 1 + 1 + 1, o, none⟩) (by show w.heap.size + 1 + 1 + 1 < _; omega)
      have hf3_3 := fun o => hb3.frozen (p := ⟨w.heap.size + 1 + 1 + 1, o, none⟩) (by show w.heap.size + 1 + 1 + 1 < _; omega)
      have hz3_3 : w.heap.size + 1 + 1 + 1 < w3.heap.size := by omega
      have hc3_4 := fun o => hb3.cell (p := ⟨w.heap.size + 1 + 1 + 1 + 1, o, none⟩) (by show w.heap.size + 1 + 1 + 1 + 1 < _; omega)
      have hf3_4 := fun o => hb3.frozen (p := ⟨w.heap.size + 1 + 1 + 1 + 1, o, none⟩) (by show w.heap.size + 1 + 1 + 1 + 1 < _; omega)
      have hz3_4 : w.heap.size + 1 + 1 + 1 + 1 < w3.heap.size := by omega
      go_wp2_with fail
      refine (hr1 _).mono ?_
      rintro e w4 ⟨rfl, hb4⟩
      have hz4 := hb4.size
      try simp only [World.size_alloc, World.size_setCell, World.size_drew] at hz4
      go_wp2_with fail
      refine (hr2 _).mono ?_
      rintro e w5 ⟨rfl, hb5⟩
      have hz5 := hb5.size
      try simp only [World.size_alloc, World.size_setCell, World.size_drew] at hz5
      have J5 := (((J.out.later hb2).later hb3).later hb4).later hb5
      clear J hb2 hb3 hb4 hb5 hd2 hd3 hc2_0 hc2_1 hc2_2 hc2_3 hc2_4 hc3_0 hc3_1 hc3_2 hc3_3 hc3_4 hf2_0 hf2_1 hf2_2 hf2_3 hf2_4 hf3_0 hf3_1 hf3_2 hf3_3 hf3_4 c_a0 c_a1 c_b0 c_b1 c_y0 c_y1 c_o0 c_o1 c_r0 c_r1 c_rf0 c_rf1 c_of0 c_of1 hbe
      obtain ⟨hbe5, hzw5, c_a0, c_a1, c_b0, c_b1, c_y0, c_y1, c_r0, c_r1, c_o0, c_o1, c_rf, c_of⟩ := J5
      simp only at c_a0 c_a1 c_b0 c_b1 c_y0 c_y1 c_o0 c_o1
      have c_rf0 := c_rf 0
      have c_rf1 := c_rf 1
      have c_of0 := c_of 0
      have c_of1 := c_of 1
      have C_rf := Lib.hid c_rf
      have C_of := Lib.hid c_of
      clear c_rf c_of
      have hwr1 : IntKind.i64.wrap (a0 + f1) = a0 + f1 := by rw [IntKind.wrap_i64]; omega
      have hwr2 : IntKind.i64.wrap (a0 + g0) = a0 + g0 := by rw [IntKind.wrap_i64]; omega
      go_wp2_with fail
      go_upto_region 10 with (fail)
      go_cut [] (fun wx => Aside (StI w ⟨a0, a1⟩ ⟨b0, b1⟩ ⟨y0, y1⟩ ⟨mx, mn⟩ wx))
      case first =>
        go_region
        all_goals
          go_wp2_with fail
          go_meet
          have k1 := Hmx.out
          have k2 := Hmn.out
          subst k1
          subst k2
          have hzA : w.heap.size < w5.heap.size := by omega
          have hzB : w.heap.size + 1 < w5.heap.size := by omega
          have hzC : w.heap.size + 1 + 1 < w5.heap.size := by omega
          have hzD : w.heap.size + 1 + 1 + 1 < w5.heap.size := by omega
          exact { below := (by (try show Below _ _ _); repeat (first | (with_reducible refine Below.setCell ?_ (by first | omega | (simp <;> omega)) _) | (with_reducible refine Below.alloc ?_ (by first | omega | (simp <;> omega)) _) | (with_reducible refine Below.drew ?_) | (with_reducible exact Below.refl _ _) | (with_reducible exact hbe5) | (with_reducible refine below_call ?_ (by assumption) (by first | omega | (simp <;> omega))) | (with_reducible refine below_call ?_ (Drew.below (by assumption) _) (by first | omega | (simp <;> omega))))), size := (by simp; omega), a0 := (by simp [go_sem, cell_set, hne4, c_a0]), a1 := (by simp [go_sem, cell_set, hne4, c_a1]), b0 := (by simp [go_sem, cell_set, hne3, c_b0]), b1 := (by simp [go_sem, cell_set, hne3, c_b1]), y0 := (by simp [go_sem, cell_set, hne2, c_y0]), y1 := (by simp [go_sem, cell_set, hne2, c_y1]), r0 := (by simp [go_sem, cell_set, c_r0]), r1 := (by simp [go_sem, cell_set, c_r1]), o0 := (by simp [go_sem, cell_set, c_o0]), o1 := (by simp [go_sem, cell_set, c_o1]), rf := (by intro o; simp [go_sem, C_rf.out o]), of := (by intro o; simp [go_sem, C_of.out o]) }
      case rest =>
        obtain ⟨wx, hwx, J6⟩ : ∃ wx, wx = _ ∧ StI w ⟨a0, a1⟩ ⟨b0, b1⟩ ⟨y0, y1⟩ ⟨mx, mn⟩ wx := ⟨_, rfl, hcut.out⟩
        subst hwx
        clear hcut c_a0 c_a1 c_b0 c_b1 c_y0 c_y1 c_o0 c_o1 c_r0 c_r1 c_rf0 c_rf1 c_of0 c_of1 hbe5
        obtain ⟨hbe6, hzw6, c_a0, c_a1, c_b0, c_b1, c_y0, c_y1, c_r0, c_r1, c_o0, c_o1, c_rf, c_of⟩ := J6
        simp only at c_o0 c_o1
        have c_rf0 := c_rf 0
        have c_rf1 := c_rf 1
        have hzD : w.heap.size + 1 + 1 + 1 < wx.heap.size := by omega
        clear c_rf c_of c_a0 c_a1 c_b0 c_b1 c_y0 c_y1 Hmx Hmn hr1 hr2
        go_wp2_with fail
        go_region
        all_goals
          go_wp2
          refine bodyPost_ret (v := .tuple #[.agg #[.int .i64 mx, .int .i64 mn], .bool (decide (mx ≤ mn))]) (by simp [results, Try.results117, go_sem, cell_set, c_r0, c_r1, hzD]) rfl ⟨rfl, (by (try show Below _ _ _); repeat (first | (with_reducible refine Below.setCell ?_ (by first | omega | (simp <;> omega)) _) | (with_reducible refine Below.alloc ?_ (by first | omega | (simp <;> omega)) _) | (with_reducible refine Below.drew ?_) | (with_reducible exact Below.refl _ _) | (with_reducible exact hbe6) | (with_reducible refine below_call ?_ (by assumption) (by first | omega | (simp <;> omega))) | (with_reducible refine below_call ?_ (Drew.below (by assumption) _) (by first | omega | (simp <;> omega)))))⟩
    · have e1 : strRise ⟨a0, a1⟩ ⟨b0, b1⟩ = b1 - a1 := by unfold strRise; rw [if_neg hneg]
      have e2 : strLow ⟨a0, a1⟩ ⟨b0, b1⟩ ⟨y0, y1⟩ = y0 - a1 := by unfold strLow; rw [if_neg hneg]
      have e3 : strHigh ⟨a0, a1⟩ ⟨b0, b1⟩ ⟨y0, y1⟩ = y1 - a1 := by unfold strHigh; rw [if_neg hneg]
      unfold strOut
      rw [e1, e2, e3]
      have hc0 : 0 < b1 - a1 := by omega
      clear e1 e2 e3 heq
      simp only
      have hr1 := fun W => ratio_below (y0 - a1) (b0 - a0) (b1 - a1) (by omega) (by omega) (by omega) W
      have hr2 := fun W => ratio_below (y1 - a1) (b0 - a0) (b1 - a1) (by omega) (by omega) (by omega) W
      have q1 := ratioS_bd (y0 - a1) (b0 - a0) (b1 - a1)
      have q2 := ratioS_bd (y1 - a1) (b0 - a0) (b1 - a1)
      generalize ratioS (y0 - a1) (b0 - a0) (b1 - a1) = p1 at *
      generalize ratioS (y1 - a1) (b0 - a0) (b1 - a1) = p2 at *
      obtain ⟨f0, f1⟩ := p1
      obtain ⟨g0, g1⟩ := p2
      simp only at q1 q2 hr1 hr2 ⊢
      generalize hmx : max a0 (a0 + f1) = mx
      generalize hmn : min b0 (a0 + g0) = mn
      have Hmx := Lib.hid hmx
      have Hmn := Lib.hid hmn
      clear hmx hmn
      go_enter Try.func117, Try.ntmps117
      go_upto_region 4 with (fail)
      obtain ⟨wa, hwa⟩ : ∃ wa, ((((w.alloc (.cells #[.int .i64 a0, .int .i64 a1] 81)).alloc (.cells #[.int .i64 b0, .int .i64 b1] 81)).alloc (.cells #[.int .i64 y0, .int .i64 y1] 23)).alloc (.cells #[.int .i64 0, .int .i64 0] 23)).alloc (.cells #[.int .i64 a0, .int .i64 b0] 23) = wa := ⟨_, rfl⟩
      have I : StI w ⟨a0, a1⟩ ⟨b0, b1⟩ ⟨y0, y1⟩ ⟨a0, b0⟩ wa := by
        rw [← hwa]
        exact { below := (by (try show Below _ _ _); repeat (first | (with_reducible refine Below.setCell ?_ (by first | omega | (simp <;> omega)) _) | (with_reducible refine Below.alloc ?_ (by first | omega | (simp <;> omega)) _) | (with_reducible refine Below.drew ?_) | (with_reducible exact Below.refl _ _) | (with_reducible refine below_call ?_ (by assumption) (by first | omega | (simp <;> omega))) | (with_reducible refine below_call ?_ (Drew.below (by assumption) _) (by first | omega | (simp <;> omega))))), size := (by simp), a0 := (by simp [go_sem]), a1 := (by simp [go_sem]), b0 := (by simp [go_sem]), b1 := (by simp [go_sem]), y0 := (by simp [go_sem]), y1 := (by simp [go_sem]), r0 := (by simp [go_sem]), r1 := (by simp [go_sem]), o0 := (by simp [go_sem]), o1 := (by simp [go_sem]), rf := (by intro o; simp [go_sem]), of := (by intro o; simp [go_sem]) }
      rw [hwa]
      clear hwa
      have I2 := I
      obtain ⟨hbe, hzw4, c_a0, c_a1, c_b0, c_b1, c_y0, c_y1, c_r0, c_r1, c_o0, c_o1, c_rf, c_of⟩ := I
      simp only at c_a0 c_a1 c_b0 c_b1 c_y0 c_y1 c_o0 c_o1
      have c_rf0 := c_rf 0
      have c_rf1 := c_rf 1
      have c_of0 := c_of 0
      have c_of1 := c_of 1
      have hzw : w.heap.size < wa.heap.size := by omega
      have hzw1 : w.heap.size + 1 < wa.heap.size := by omega
      have hzw2 : w.heap.size + 1 + 1 < wa.heap.size := by omega
      have hzw3 : w.heap.size + 1 + 1 + 1 < wa.heap.size := by omega
      clear c_rf c_of
      have hne2 : ¬ w.heap.size + 1 + 1 = w.heap.size := by omega
      have hne3 : ¬ w.heap.size + 1 + 1 + 1 = w.heap.size := by omega
      have hne4 : ¬ w.heap.size + 1 + 1 + 1 + 1 = w.heap.size := by omega
      have J := Lib.hid I2
      clear I2
      go_quiet (fail)
      generalize hwq2 : World.drewN wa _ = w2
      have hd2 : Drew wa w2 := ⟨_, hwq2.symm⟩
      have hb2 : Below wa.heap.size wa w2 := hd2.below _
      have hz2 := hb2.size
      clear hwq2
      have hc2_0 := fun o => hb2.cell (p := ⟨w.heap.size, o, none⟩) (by show w.heap.size < _; omega)
      have hf2_0 := fun o => hb2.frozen (p := ⟨w.heap.size, o, none⟩) (by show w.heap.size < _; omega)
      have hz2_0 : w.heap.size < w2.heap.size := by omega
      have hc2_1 := fun o => hb2.cell (p := ⟨w.heap.size + 1, o, none⟩) (by show w.heap.size + 1 < _; omega)
      have hf2_1 := fun o => hb2.frozen (p := ⟨w.heap.size + 1, o, none⟩) (by show w.heap.size + 1 < _; omega)
      have hz2_1 : w.heap.size + 1 < w2.heap.size := by omega
      have hc2_2 := fun o => hb2.cell (p := ⟨w.heap.size + 1 + 1, o, none⟩) (by show w.heap.size + 1 + 1 < _; omega)
      have hf2_2 := fun o => hb2.frozen (p := ⟨w.heap.size + 1 + 1, o, none⟩) (by show w.heap.size + 1 + 1 < _; omega)
      have hz2_2 : w.heap.size + 1 + 1 < w2.heap.size := by omega
      have hc2_3 := fun o => hb2.cell (p := ⟨w.heap.size + 1 + 1 + 1, o, none⟩) (by show w.heap.size + 1 + 1 + 1 < _; omega)
      have hf2_3 := fun o => hb2.frozen (p := ⟨w.heap.size + 1 + 1 + 1, o, none⟩) (by show w.heap.size + 1 + 1 + 1 < _; omega)
      have hz2_3 : w.heap.size + 1 + 1 + 1 < w2.heap.size := by omega
      have hc2_4 := fun o => hb2.cell (p := ⟨w.heap.size + 1 + 1 + 1 + 1, o, none⟩) (by show w.heap.size + 1 + 1 + 1 + 1 < _; omega)
      have hf2_4 := fun o => hb2.frozen (p := ⟨w.heap.size + 1 + 1 + 1 + 1, o, none⟩) (by show w.heap.size + 1 + 1 + 1 + 1 < _; omega)
      have hz2_4 : w.heap.size + 1 + 1 + 1 + 1 < w2.heap.size := by omega
      go_wp2_with fail
      go_quiet (fail)
      generalize hwq3 : World.drewN w2 _ = w3
      have hd3 : Drew w2 w3 := ⟨_, hwq3.symm⟩
      have hb3 : Below w2.heap.size w2 w3 := hd3.below _
      have hz3 := hb3.size
      clear hwq3
      have hc3_0 := fun o => hb3.cell (p := ⟨w.heap.size, o, none⟩) (by show w.heap.size < _; omega)
      have hf3_0 := fun o => hb3.frozen (p := ⟨w.heap.size, o, none⟩) (by show w.heap.size < _; omega)
      have hz3_0 : w.heap.size < w3.heap.size := by omega
      have hc3_1 := fun o => hb3.cell (p := ⟨w.heap.size + 1, o, none⟩) (by show w.heap.size + 1 < _; omega)
      have hf3_1 := fun o => hb3.frozen (p := ⟨w.heap.size + 1, o, none⟩) (by show w.heap.size + 1 < _; omega)
      have hz3_1 : w.heap.size + 1 < w3.heap.size := by omega
      have hc3_2 := fun o => hb3.cell (p := ⟨w.heap.size + 1 + 1, o, none⟩) (by show w.heap.size + 1 + 1 < _; omega)
      have hf3_2 := fun o => hb3.frozen (p := ⟨w.heap.size + 1 + 1, o, none⟩) (by show w.heap.size + 1 + 1 < _; omega)
      have hz3_2 : w.heap.size + 1 + 1 < w3.heap.size := by omega
      have hc3_3 := fun o => hb3.cell (p := ⟨w.heap.size + 1 + 1 + 1, o, none⟩) (by show w.heap.size + 1 + 1 + 1 < _; omega)
      have hf3_3 := fun o => hb3.frozen (p := ⟨w.heap.size + 1 + 1 + 1, o, none⟩) (by show w.heap.size + 1 + 1 + 1 < _; omega)
      have hz3_3 : w.heap.size + 1 + 1 + 1 < w3.heap.size := by omega
      have hc3_4 := fun o => hb3.cell (p := ⟨w.heap.size + 1 + 1 + 1 + 1, o, none⟩) (by show w.heap.size + 1 + 1 + 1 + 1 < _; omega)
      have hf3_4 := fun o => hb3.frozen (p := ⟨w.heap.size + 1 + 1 + 1 + 1, o, none⟩) (by show w.heap.size + 1 + 1 + 1 + 1 < _; omega)
      have hz3_4 : w.heap.size + 1 + 1 + 1 + 1 < w3.heap.size := by omega
      go_wp2_with fail
      refine (hr1 _).mono ?_
      rintro e w4 ⟨rfl, hb4⟩
      have hz4 := hb4.size
      try simp only [World.size_alloc, World.size_setCell, World.size_drew] at hz4
      go_wp2_with fail
      refine (hr2 _).mono ?_
      rintro e w5 ⟨rfl, hb5⟩
      have hz5 := hb5.size
      try simp only [World.size_alloc, World.size_setCell, World.size_drew] at hz5
      have J5 := (((J.out.later hb2).later hb3).later hb4).later hb5
      clear J hb2 hb3 hb4 hb5 hd2 hd3 hc2_0 hc2_1 hc2_2 hc2_3 hc2_4 hc3_0 hc3_1 hc3_2 hc3_3 hc3_4 hf2_0 hf2_1 hf2_2 hf2_3 hf2_4 hf3_0 hf3_1 hf3_2 hf3_3 hf3_4 c_a0 c_a1 c_b0 c_b1 c_y0 c_y1 c_o0 c_o1 c_r0 c_r1 c_rf0 c_rf1 c_of0 c_of1 hbe
      obtain ⟨hbe5, hzw5, c_a0, c_a1, c_b0, c_b1, c_y0, c_y1, c_r0, c_r1, c_o0, c_o1, c_rf, c_of⟩ := J5
      simp only at c_a0 c_a1 c_b0 c_b1 c_y0 c_y1 c_o0 c_o1
      have c_rf0 := c_rf 0
      have c_rf1 := c_rf 1
      have c_of0 := c_of 0
      have c_of1 := c_of 1
      have C_rf := Lib.hid c_rf
      have C_of := Lib.hid c_of
      clear c_rf c_of
      have hwr1 : IntKind.i64.wrap (a0 + f1) = a0 + f1 := by rw [IntKind.wrap_i64]; omega
      have hwr2 : IntKind.i64.wrap (a0 + g0) = a0 + g0 := by rw [IntKind.wrap_i64]; omega
      go_wp2_with fail
      go_upto_region 10 with (fail)
      go_cut [] (fun wx => Aside (StI w ⟨a0, a1⟩ ⟨b0, b1⟩ ⟨y0, y1⟩ ⟨mx, mn⟩ wx))
      case first =>
        go_region
        all_goals
          go_wp2_with fail
          go_meet
          have k1 := Hmx.out
          have k2 := Hmn.out
          subst k1
          subst k2
          have hzA : w.heap.size < w5.heap.size := by omega
          have hzB : w.heap.size + 1 < w5.heap.size := by omega
          have hzC : w.heap.size + 1 + 1 < w5.heap.size := by omega
          have hzD : w.heap.size + 1 + 1 + 1 < w5.heap.size := by omega
          exact { below := (by (try show Below _ _ _); repeat (first | (with_reducible refine Below.setCell ?_ (by first | omega | (simp <;> omega)) _) | (with_reducible refine Below.alloc ?_ (by first | omega | (simp <;> omega)) _) | (with_reducible refine Below.drew ?_) | (with_reducible exact Below.refl _ _) | (with_reducible exact hbe5) | (with_reducible refine below_call ?_ (by assumption) (by first | omega | (simp <;> omega))) | (with_reducible refine below_call ?_ (Drew.below (by assumption) _) (by first | omega | (simp <;> omega))))), size := (by simp; omega), a0 := (by simp [go_sem, cell_set, hne4, c_a0]), a1 := (by simp [go_sem, cell_set, hne4, c_a1]), b0 := (by simp [go_sem, cell_set, hne3, c_b0]), b1 := (by simp [go_sem, cell_set, hne3, c_b1]), y0 := (by simp [go_sem, cell_set, hne2, c_y0]), y1 := (by simp [go_sem, cell_set, hne2, c_y1]), r0 := (by simp [go_sem, cell_set, c_r0]), r1 := (by simp [go_sem, cell_set, c_r1]), o0 := (by simp [go_sem, cell_set, c_o0]), o1 := (by simp [go_sem, cell_set, c_o1]), rf := (by intro o; simp [go_sem, C_rf.out o]), of := (by intro o; simp [go_sem, C_of.out o]) }
      case rest =>
        obtain ⟨wx, hwx, J6⟩ : ∃ wx, wx = _ ∧ StI w ⟨a0, a1⟩ ⟨b0, b1⟩ ⟨y0, y1⟩ ⟨mx, mn⟩ wx := ⟨_, rfl, hcut.out⟩
        subst hwx
        clear hcut c_a0 c_a1 c_b0 c_b1 c_y0 c_y1 c_o0 c_o1 c_r0 c_r1 c_rf0 c_rf1 c_of0 c_of1 hbe5
        obtain ⟨hbe6, hzw6, c_a0, c_a1, c_b0, c_b1, c_y0, c_y1, c_r0, c_r1, c_o0, c_o1, c_rf, c_of⟩ := J6
        simp only at c_o0 c_o1
        have c_rf0 := c_rf 0
        have c_rf1 := c_rf 1
        have hzD : w.heap.size + 1 + 1 + 1 < wx.heap.size := by omega
        clear c_rf c_of c_a0 c_a1 c_b0 c_b1 c_y0 c_y1 Hmx Hmn hr1 hr2
        go_wp2_with fail
        go_region
        all_goals
          go_wp2
          refine bodyPost_ret (v := .tuple #[.agg #[.int .i64 mx, .int .i64 mn], .bool (decide (mx ≤ mn))]) (by simp [results, Try.results117, go_sem, cell_set, c_r0, c_r1, hzD]) rfl ⟨rfl, (by (try show Below _ _ _); repeat (first | (with_reducible refine Below.setCell ?_ (by first | omega | (simp <;> omega)) _) | (with_reducible refine Below.alloc ?_ (by first | omega | (simp <;> omega)) _) | (with_reducible refine Below.drew ?_) | (with_reducible exact Below.refl _ _) | (with_reducible exact hbe6) | (with_reducible refine below_call ?_ (by assumption) (by first | omega | (simp <;> omega))) | (with_reducible refine below_call ?_ (Drew.below (by assumption) _) (by first | omega | (simp <;> omega)))))⟩

end Go.Proofs.Ytfohdafijfjefaa
