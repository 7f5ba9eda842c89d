/- Contracts: span.liquid.draw, Draw. -/
import Derived.Test.YtfohdafijfjefaaFold
import Derived.BigRegion
import Derived.Deep.DeepCutAuto
set_option linter.unusedSimpArgs false
set_option linter.unusedVariables false
namespace Go.Proofs.Ytfohdafijfjefaa
open Go.RowKit Go.Shelf

theorem ratioN_bound (neg : Bool) (P C : Nat) : -2000000000000001 ≤ (ratioN neg P C).1 ∧ (ratioN neg P C).1 ≤ 2000000000000001 ∧ -2000000000000001 ≤ (ratioN neg P C).2 ∧ (ratioN neg P C).2 ≤ 2000000000000001 := by
  unfold ratioN
  generalize P / C = q
  by_cases h : q < 2000000000000000
  · rw [if_pos h]
    by_cases h2 : 0 < P % C
    · rw [if_pos h2]; cases neg <;> simp <;> omega
    · rw [if_neg h2]; cases neg <;> simp <;> omega
  · rw [if_neg h]; cases neg <;> simp

/-- what is drawn -/
def drawnS (s : R) (m : Int) : R := if 0 < m then ⟨m - (ratioS s.hi m (s.lo + s.hi)).1, (ratioS s.hi m (s.lo + s.hi)).1⟩ else ⟨0, 0⟩
def leftS (s : R) (m : Int) : R := ⟨s.lo - (drawnS s m).lo, s.hi - (drawnS s m).hi⟩

structure DrawI (w : World) (a b : Int) (wr : World) : Prop where
  below : Below w.heap.size w wr
  size : w.heap.size + 1 + 1 < wr.heap.size
  c00 : wr.cell? ⟨w.heap.size, 0, none⟩ = some (.int .i64 a)
  c01 : wr.cell? ⟨w.heap.size, 1, none⟩ = some (.int .i64 b)
  c10 : wr.cell? ⟨w.heap.size + 1, 0, none⟩ = some (.int .i64 0)
  c11 : wr.cell? ⟨w.heap.size + 1, 1, none⟩ = some (.int .i64 0)
  c20 : wr.cell? ⟨w.heap.size + 1 + 1, 0, none⟩ = some (.int .i64 0)
  c21 : wr.cell? ⟨w.heap.size + 1 + 1, 1, none⟩ = some (.int .i64 0)
  f10 : wr.frozen? ⟨w.heap.size + 1, 0, none⟩ = false
  f11 : wr.frozen? ⟨w.heap.size + 1, 1, none⟩ = false
  f20 : wr.frozen? ⟨w.heap.size + 1 + 1, 0, none⟩ = false
  f21 : wr.frozen? ⟨w.heap.size + 1 + 1, 1, none⟩ = false

set_option maxHeartbeats 2000000 in
theorem draw_any (a b m : Int) (hok : okS ⟨a, b⟩ = true) (hm : 0 ≤ m ∧ m ≤ a + b) (w : World) :
    Calls Try.prog 101 #[.agg #[.int .i64 a, .int .i64 b], .int .i64 m] w fun e w' => e = .returned (.tuple #[.agg #[.int .i64 (drawnS ⟨a, b⟩ m).lo, .int .i64 (drawnS ⟨a, b⟩ m).hi], .agg #[.int .i64 (leftS ⟨a, b⟩ m).lo, .int .i64 (leftS ⟨a, b⟩ m).hi]]) ∧ Below w.heap.size w w' := by
  obtain ⟨k1, k2, k3, k4⟩ := (okS_iff _).1 hok
  obtain ⟨m1, m2⟩ := hm
  simp only at k1 k2 k3 k4
  clear hok
  unfold leftS drawnS
  simp only
  by_cases h0 : 0 < m
  · rw [if_pos h0]
    simp only
    have hmass := fun W => mass_any a b W (by omega)
    have hrat := fun W => ratio_any b m (a + b) (by omega) (by omega) (by omega) W
    have hbd := ratioN_bound (decide (b < 0) != decide (m < 0)) (b.natAbs * m.natAbs) (a + b).toNat
    have er : ratioS b m (a + b) = ratioN (decide (b < 0) != decide (m < 0)) (b.natAbs * m.natAbs) (a + b).toNat := rfl
    rw [← er] at hbd
    clear er
    generalize (ratioS b m (a + b)).1 = q at hrat hbd ⊢
    generalize (ratioS b m (a + b)).2 = q2 at hrat hbd
    go_enter Try.func101, Try.ntmps101
    go_upto_region 2 with (fail)
    go_cut [6, 7] (fun s6 s7 wx => s6 = .int .i64 q ∧ s7 = .int .i64 q2 ∧ Aside (DrawI w a b wx))
    case first =>
      go_region_with (first | (go_at_call 98; refine (hmass _).mono ?_; rintro e w3 ⟨rfl, hx3⟩; have hb3 := below_undrew hx3; have hz3 := hb3.size; (try simp only [World.size_alloc, World.size_setCell, World.size_drew] at hz3); have hc3_0 := fun o => hb3.cell (p := ⟨w.heap.size, o, none⟩) (by show w.heap.size < _; first | omega | (simp only [World.size_alloc, World.size_setCell, World.size_drew]; omega)); have hf3_0 := fun o => hb3.frozen (p := ⟨w.heap.size, o, none⟩) (by show w.heap.size < _; first | omega | (simp only [World.size_alloc, World.size_setCell, World.size_drew]; omega)); have hz3_0 : w.heap.size < w3.heap.size := (by omega); have hc3_1 := fun o => hb3.cell (p := ⟨w.heap.size + 1, o, none⟩) (by show w.heap.size + 1 < _; first | omega | (simp only [World.size_alloc, World.size_setCell, World.size_drew]; omega)); have hf3_1 := fun o => hb3.frozen (p := ⟨w.heap.size + 1, o, none⟩) (by show w.heap.size + 1 < _; first | omega | (simp only [World.size_alloc, World.size_setCell, World.size_drew]; omega)); have hz3_1 : w.heap.size + 1 < w3.heap.size := (by omega); have hc3_2 := fun o => hb3.cell (p := ⟨w.heap.size + 1 + 1, o, none⟩) (by show w.heap.size + 1 + 1 < _; first | omega | (simp only [World.size_alloc, World.size_setCell, World.size_drew]; omega)); have hf3_2 := fun o => hb3.frozen (p := ⟨w.heap.size + 1 + 1, o, none⟩) (by show w.heap.size + 1 + 1 < _; first | omega | (simp only [World.size_alloc, World.size_setCell, World.size_drew]; omega)); have hz3_2 : w.heap.size + 1 + 1 < w3.heap.size := (by omega)) | (go_at_call 138; refine (hrat _).mono ?_; rintro e w4 ⟨rfl, hd4⟩; have hb4 := drew_all hd4; have hz4 := hb4.size; (try simp only [World.size_alloc, World.size_setCell, World.size_drew] at hz4); have hc4_0 := fun o => hb4.cell (p := ⟨w.heap.size, o, none⟩) (by show w.heap.size < _; first | omega | (simp only [World.size_alloc, World.size_setCell, World.size_drew]; omega)); have hf4_0 := fun o => hb4.frozen (p := ⟨w.heap.size, o, none⟩) (by show w.heap.size < _; first | omega | (simp only [World.size_alloc, World.size_setCell, World.size_drew]; omega)); have hz4_0 : w.heap.size < w4.heap.size := (by omega); have hc4_1 := fun o => hb4.cell (p := ⟨w.heap.size + 1, o, none⟩) (by show w.heap.size + 1 < _; first | omega | (simp only [World.size_alloc, World.size_setCell, World.size_drew]; omega)); have hf4_1 := fun o => hb4.frozen (p := ⟨w.heap.size + 1, o, none⟩) (by show w.heap.size + 1 < _; first | omega | (simp only [World.size_alloc, World.size_setCell, World.size_drew]; omega)); have hz4_1 : w.heap.size + 1 < w4.heap.size := (by omega); have hc4_2 := fun o => hb4.cell (p := ⟨w.heap.size + 1 + 1, o, none⟩) (by show w.heap.size + 1 + 1 < _; first | omega | (simp only [World.size_alloc, World.size_setCell, World.size_drew]; omega)); have hf4_2 := fun o => hb4.frozen (p := ⟨w.heap.size + 1 + 1, o, none⟩) (by show w.heap.size + 1 + 1 < _; first | omega | (simp only [World.size_alloc, World.size_setCell, World.size_drew]; omega)); have hz4_2 : w.heap.size + 1 + 1 < w4.heap.size := (by omega)))
      all_goals
        go_wp2_with fail
        go_meet
        exact ⟨rfl, rfl, { below := (by (try show Below _ _ _); repeat (first | (with_reducible refine Below.setCell ?_ (by first | omega | (simp <;> omega)) _) | (with_reducible refine Below.alloc ?_ (by first | omega | (simp <;> omega)) _) | (with_reducible refine Below.drew ?_) | (with_reducible exact Below.refl _ _) | (with_reducible refine below_call ?_ (by assumption) (by first | omega | (simp <;> omega))) | (with_reducible refine below_call ?_ (Drew.below (by assumption) _) (by first | omega | (simp <;> omega))))), size := (by omega), c00 := (by simp [go_sem, hc4_0, hc3_0]), c01 := (by simp [go_sem, hc4_0, hc3_0]), c10 := (by simp [go_sem, hc4_1, hc3_1]), c11 := (by simp [go_sem, hc4_1, hc3_1]), c20 := (by simp [go_sem, hc4_2, hc3_2]), c21 := (by simp [go_sem, hc4_2, hc3_2]), f10 := (by simp [go_sem, hf4_1, hf3_1]), f11 := (by simp [go_sem, hf4_1, hf3_1]), f20 := (by simp [go_sem, hf4_2, hf3_2]), f21 := (by simp [go_sem, hf4_2, hf3_2]) }⟩
    case rest =>
      obtain ⟨rfl, rfl, I⟩ := hcut
      obtain ⟨hbe, hsz, c00, c01, c10, c11, c20, c21, f10, f11, f20, f21⟩ := I.out
      clear I hrat hmass
      go_wp2
      go_region
      go_wp2
      go_region
      go_wp2
      generalize hwf : World.setCell _ _ _ = wf
      have t10 : wf.cell? ⟨w.heap.size + 1, 0, none⟩ = some (.int .i64 (m - q)) := by rw [← hwf]; simp [cell_set, c10]
      have t11 : wf.cell? ⟨w.heap.size + 1, 1, none⟩ = some (.int .i64 q) := by rw [← hwf]; simp [cell_set, c11]
      have t20 : wf.cell? ⟨w.heap.size + 1 + 1, 0, none⟩ = some (.int .i64 (a - (m - q))) := by rw [← hwf]; simp [cell_set, c20]
      have t21 : wf.cell? ⟨w.heap.size + 1 + 1, 1, none⟩ = some (.int .i64 (b - q)) := by rw [← hwf]; simp [cell_set, c21]
      have tb : Below w.heap.size w wf := by rw [← hwf]; exact (by (try show Below _ _ _); repeat (first | (with_reducible refine Below.setCell ?_ (by first | omega | (simp <;> omega)) _) | (with_reducible refine Below.alloc ?_ (by first | omega | (simp <;> omega)) _) | (with_reducible refine Below.drew ?_) | (with_reducible exact Below.refl _ _) | (with_reducible exact hbe) | (with_reducible refine below_call ?_ (by assumption) (by first | omega | (simp <;> omega))) | (with_reducible refine below_call ?_ (Drew.below (by assumption) _) (by first | omega | (simp <;> omega)))))
      clear hwf
      exact bodyPost_ret (v := .tuple #[.agg #[.int .i64 (m - q), .int .i64 q], .agg #[.int .i64 (a - (m - q)), .int .i64 (b - q)]]) (by simp [results, Try.results101, go_sem, t10, t11, t20, t21]) rfl ⟨rfl, ⟨tb.os, tb.tape, tb.output, tb.size, tb.block⟩⟩
  · rw [if_neg h0]
    obtain rfl : m = 0 := by omega
    have hz : ¬ (0 : Int) < 0 := by omega
    go_enter Try.func101, Try.ntmps101
    go_wp2_with fail
    go_region
    go_wp2
    go_region
    go_wp2
    refine bodyPost_ret (v := .tuple #[.agg #[.int .i64 0, .int .i64 0], .agg #[.int .i64 (a - 0), .int .i64 (b - 0)]]) (by simp [results, Try.results101, go_sem]) rfl ⟨rfl, (by (try show Below _ _ _); repeat (first | (with_reducible refine Below.setCell ?_ (by first | omega | (simp <;> omega)) _) | (with_reducible refine Below.alloc ?_ (by first | omega | (simp <;> omega)) _) | (with_reducible refine Below.drew ?_) | (with_reducible exact Below.refl _ _) | (with_reducible refine below_call ?_ (by assumption) (by first | omega | (simp <;> omega))) | (with_reducible refine below_call ?_ (Drew.below (by assumption) _) (by first | omega | (simp <;> omega)))))⟩

/-- what is drawn and left, with the error -/
def drawE (s : R) (m : Int) : Value × Value × Int :=
  if okS s = false then (.agg #[.int .i64 0, .int .i64 0], .agg #[.int .i64 0, .int .i64 0], 2)
  else if btw 0 (s.lo + s.hi) [m] = false then (.agg #[.int .i64 0, .int .i64 0], .agg #[.int .i64 0, .int .i64 0], 3)
  else (.agg #[.int .i64 (drawnS s m).lo, .int .i64 (drawnS s m).hi], .agg #[.int .i64 (leftS s m).lo, .int .i64 (leftS s m).hi], 0)

set_option maxHeartbeats 2000000 in
theorem Draw_any (a b m : Int) (w : World) :
    Calls Try.prog 33 #[.agg #[.int .i64 a, .int .i64 b], .int .i64 m] w fun e w' => e = .returned (.tuple #[(drawE ⟨a, b⟩ m).1, (drawE ⟨a, b⟩ m).2.1, .int .i64 (drawE ⟨a, b⟩ m).2.2]) ∧ Below w.heap.size w w' := by
  have hok := fun W => ok_any a b W
  unfold drawE
  cases h0 : okS ⟨a, b⟩ with
  | false =>
    rw [h0] at hok
    rw [if_pos rfl]
    simp only
    go_enter Try.func33, Try.ntmps33
    go_wp2_with fail
    refine (hok _).mono ?_
    rintro e w1 ⟨rfl, hb1⟩
    have hz1 := hb1.size
    try simp only [World.size_alloc, World.size_setCell, World.size_drew] at hz1
    have hc1_0 := fun o => hb1.cell (p := ⟨w.heap.size, o, none⟩) (by show w.heap.size < _; first | omega | (simp only [World.size_alloc, World.size_setCell, World.size_drew]; omega))
    have hf1_0 := fun o => hb1.frozen (p := ⟨w.heap.size, o, none⟩) (by show w.heap.size < _; first | omega | (simp only [World.size_alloc, World.size_setCell, World.size_drew]; omega))
    have hz1_0 : w.heap.size < w1.heap.size := by omega
    have hc1_1 := fun o => hb1.cell (p := ⟨w.heap.size + 1, o, none⟩) (by show w.heap.size + 1 < _; first | omega | (simp only [World.size_alloc, World.size_setCell, World.size_drew]; omega))
    have hf1_1 := fun o => hb1.frozen (p := ⟨w.heap.size + 1, o, none⟩) (by show w.heap.size + 1 < _; first | omega | (simp only [World.size_alloc, World.size_setCell, World.size_drew]; omega))
    have hz1_1 : w.heap.size + 1 < w1.heap.size := by omega
    have hc1_2 := fun o => hb1.cell (p := ⟨w.heap.size + 1 + 1, o, none⟩) (by show w.heap.size + 1 + 1 < _; first | omega | (simp only [World.size_alloc, World.size_setCell, World.size_drew]; omega))
    have hf1_2 := fun o => hb1.frozen (p := ⟨w.heap.size + 1 + 1, o, none⟩) (by show w.heap.size + 1 + 1 < _; first | omega | (simp only [World.size_alloc, World.size_setCell, World.size_drew]; omega))
    have hz1_2 : w.heap.size + 1 + 1 < w1.heap.size := by omega
    have hc1_3 := fun o => hb1.cell (p := ⟨w.heap.size + 1 + 1 + 1, o, none⟩) (by show w.heap.size + 1 + 1 + 1 < _; first | omega | (simp only [World.size_alloc, World.size_setCell, World.size_drew]; omega))
    have hf1_3 := fun o => hb1.frozen (p := ⟨w.heap.size + 1 + 1 + 1, o, none⟩) (by show w.heap.size + 1 + 1 + 1 < _; first | omega | (simp only [World.size_alloc, World.size_setCell, World.size_drew]; omega))
    have hz1_3 : w.heap.size + 1 + 1 + 1 < w1.heap.size := by omega
    go_wp2
    go_region
    go_wp2
    refine bodyPost_ret (v := .tuple #[.agg #[.int .i64 0, .int .i64 0], .agg #[.int .i64 0, .int .i64 0], .int .i64 2]) (by simp [results, Try.results33, go_sem, cell_set, hc1_1, hc1_2]) rfl ⟨rfl, (by (try show Below _ _ _); repeat (first | (with_reducible refine Below.setCell ?_ (by first | omega | (simp <;> omega)) _) | (with_reducible refine Below.alloc ?_ (by first | omega | (simp <;> omega)) _) | (with_reducible refine Below.drew ?_) | (with_reducible exact Below.refl _ _) | (with_reducible refine below_call ?_ (by assumption) (by first | omega | (simp <;> omega))) | (with_reducible refine below_call ?_ (Drew.below (by assumption) _) (by first | omega | (simp <;> omega)))))⟩
  | true =>
    obtain ⟨k1, k2, k3, k4⟩ := (okS_iff _).1 h0
    simp only at k1 k2 k3 k4
    rw [h0] at hok
    rw [if_neg (by decide)]
    simp only
    have hmass := fun W => mass_any a b W (by omega)
    have hW := fun (A : Option Addr) (W : World) h => span_within 0 (a + b) 0 A 1 1 [m] W h rfl one_le
    cases h1 : btw 0 (a + b) [m] with
    | false =>
      rw [h1] at hW
      rw [if_pos rfl]
      simp only
      go_enter Try.func33, Try.ntmps33
      go_wp2_with fail
      refine (hok _).mono ?_
      rintro e w1 ⟨rfl, hb1⟩
      have hz1 := hb1.size
      try simp only [World.size_alloc, World.size_setCell, World.size_drew] at hz1
      have hc1_0 := fun o => hb1.cell (p := ⟨w.heap.size, o, none⟩) (by show w.heap.size < _; first | omega | (simp only [World.size_alloc, World.size_setCell, World.size_drew]; omega))
      have hf1_0 := fun o => hb1.frozen (p := ⟨w.heap.size, o, none⟩) (by show w.heap.size < _; first | omega | (simp only [World.size_alloc, World.size_setCell, World.size_drew]; omega))
      have hz1_0 : w.heap.size < w1.heap.size := by omega
      have hc1_1 := fun o => hb1.cell (p := ⟨w.heap.size + 1, o, none⟩) (by show w.heap.size + 1 < _; first | omega | (simp only [World.size_alloc, World.size_setCell, World.size_drew]; omega))
      have hf1_1 := fun o => hb1.frozen (p := ⟨w.heap.size + 1, o, none⟩) (by show w.heap.size + 1 < _; first | omega | (simp only [World.size_alloc, World.size_setCell, World.size_drew]; omega))
      have hz1_1 : w.heap.size + 1 < w1.heap.size := by omega
      have hc1_2 := fun o => hb1.cell (p := ⟨w.heap.size + 1 + 1, o, none⟩) (by show w.heap.size + 1 + 1 < _; first | omega | (simp only [World.size_alloc, World.size_setCell, World.size_drew]; omega))
      have hf1_2 := fun o => hb1.frozen (p := ⟨w.heap.size + 1 + 1, o, none⟩) (by show w.heap.size + 1 + 1 < _; first | omega | (simp only [World.size_alloc, World.size_setCell, World.size_drew]; omega))
      have hz1_2 : w.heap.size + 1 + 1 < w1.heap.size := by omega
      have hc1_3 := fun o => hb1.cell (p := ⟨w.heap.size + 1 + 1 + 1, o, none⟩) (by show w.heap.size + 1 + 1 + 1 < _; first | omega | (simp only [World.size_alloc, World.size_setCell, World.size_drew]; omega))
      have hf1_3 := fun o => hb1.frozen (p := ⟨w.heap.size + 1 + 1 + 1, o, none⟩) (by show w.heap.size + 1 + 1 + 1 < _; first | omega | (simp only [World.size_alloc, World.size_setCell, World.size_drew]; omega))
      have hz1_3 : w.heap.size + 1 + 1 + 1 < w1.heap.size := by omega
      go_wp2_with fail
      refine (hmass _).mono ?_
      rintro e w2 ⟨rfl, hb2⟩
      have hz2 := hb2.size
      try simp only [World.size_alloc, World.size_setCell, World.size_drew] at hz2
      have hc2_0 := fun o => hb2.cell (p := ⟨w.heap.size, o, none⟩) (by show w.heap.size < _; first | omega | (simp only [World.size_alloc, World.size_setCell, World.size_drew]; omega))
      have hf2_0 := fun o => hb2.frozen (p := ⟨w.heap.size, o, none⟩) (by show w.heap.size < _; first | omega | (simp only [World.size_alloc, World.size_setCell, World.size_drew]; omega))
      have hz2_0 : w.heap.size < w2.heap.size := by omega
      have hc2_1 := fun o => hb2.cell (p := ⟨w.heap.size + 1, o, none⟩) (by show w.heap.size + 1 < _; first | omega | (simp only [World.size_alloc, World.size_setCell, World.size_drew]; omega))
      have hf2_1 := fun o => hb2.frozen (p := ⟨w.heap.size + 1, o, none⟩) (by show w.heap.size + 1 < _; first | omega | (simp only [World.size_alloc, World.size_setCell, World.size_drew]; omega))
      have hz2_1 : w.heap.size + 1 < w2.heap.size := by omega
      have hc2_2 := fun o => hb2.cell (p := ⟨w.heap.size + 1 + 1, o, none⟩) (by show w.heap.size + 1 + 1 < _; first | omega | (simp only [World.size_alloc, World.size_setCell, World.size_drew]; omega))
      have hf2_2 := fun o => hb2.frozen (p := ⟨w.heap.size + 1 + 1, o, none⟩) (by show w.heap.size + 1 + 1 < _; first | omega | (simp only [World.size_alloc, World.size_setCell, World.size_drew]; omega))
      have hz2_2 : w.heap.size + 1 + 1 < w2.heap.size := by omega
      have hc2_3 := fun o => hb2.cell (p := ⟨w.heap.size + 1 + 1 + 1, o, none⟩) (by show w.heap.size + 1 + 1 + 1 < _; first | omega | (simp only [World.size_alloc, World.size_setCell, World.size_drew]; omega))
      have hf2_3 := fun o => hb2.frozen (p := ⟨w.heap.size + 1 + 1 + 1, o, none⟩) (by show w.heap.size + 1 + 1 + 1 < _; first | omega | (simp only [World.size_alloc, World.size_setCell, World.size_drew]; omega))
      have hz2_3 : w.heap.size + 1 + 1 + 1 < w2.heap.size := by omega
      go_wp2_with fail
      refine (hW _ _ (Ints.of1 (by simp [go_sem]) (by simp))).mono ?_
      rintro e w3 ⟨rfl, hb3⟩
      have hz3 := hb3.size
      try simp only [World.size_alloc, World.size_setCell, World.size_drew] at hz3
      have hc3_0 := fun o => hb3.cell (p := ⟨w.heap.size, o, none⟩) (by show w.heap.size < _; first | omega | (simp only [World.size_alloc, World.size_setCell, World.size_drew]; omega))
      have hf3_0 := fun o => hb3.frozen (p := ⟨w.heap.size, o, none⟩) (by show w.heap.size < _; first | omega | (simp only [World.size_alloc, World.size_setCell, World.size_drew]; omega))
      have hz3_0 : w.heap.size < w3.heap.size := by omega
      have hc3_1 := fun o => hb3.cell (p := ⟨w.heap.size + 1, o, none⟩) (by show w.heap.size + 1 < _; first | omega | (simp only [World.size_alloc, World.size_setCell, World.size_drew]; omega))
      have hf3_1 := fun o => hb3.frozen (p := ⟨w.heap.size + 1, o, none⟩) (by show w.heap.size + 1 < _; first | omega | (simp only [World.size_alloc, World.size_setCell, World.size_drew]; omega))
      have hz3_1 : w.heap.size + 1 < w3.heap.size := by omega
      have hc3_2 := fun o => hb3.cell (p := ⟨w.heap.size + 1 + 1, o, none⟩) (by show w.heap.size + 1 + 1 < _; first | omega | (simp only [World.size_alloc, World.size_setCell, World.size_drew]; omega))
      have hf3_2 := fun o => hb3.frozen (p := ⟨w.heap.size + 1 + 1, o, none⟩) (by show w.heap.size + 1 + 1 < _; first | omega | (simp only [World.size_alloc, World.size_setCell, World.size_drew]; omega))
      have hz3_2 : w.heap.size + 1 + 1 < w3.heap.size := by omega
      have hc3_3 := fun o => hb3.cell (p := ⟨w.heap.size + 1 + 1 + 1, o, none⟩) (by show w.heap.size + 1 + 1 + 1 < _; first | omega | (simp only [World.size_alloc, World.size_setCell, World.size_drew]; omega))
      have hf3_3 := fun o => hb3.frozen (p := ⟨w.heap.size + 1 + 1 + 1, o, none⟩) (by show w.heap.size + 1 + 1 + 1 < _; first | omega | (simp only [World.size_alloc, World.size_setCell, World.size_drew]; omega))
      have hz3_3 : w.heap.size + 1 + 1 + 1 < w3.heap.size := by omega
      go_wp2
      go_region
      go_wp2
      refine bodyPost_ret (v := .tuple #[.agg #[.int .i64 0, .int .i64 0], .agg #[.int .i64 0, .int .i64 0], .int .i64 3]) (by simp [results, Try.results33, go_sem, cell_set, hc1_1, hc1_2, hc2_1, hc2_2, hc3_1, hc3_2, hz2_1, hz2_2]) rfl ⟨rfl, (by (try show Below _ _ _); repeat (first | (with_reducible refine Below.setCell ?_ (by first | omega | (simp <;> omega)) _) | (with_reducible refine Below.alloc ?_ (by first | omega | (simp <;> omega)) _) | (with_reducible refine Below.drew ?_) | (with_reducible exact Below.refl _ _) | (with_reducible refine below_call ?_ (by assumption) (by first | omega | (simp <;> omega))) | (with_reducible refine below_call ?_ (Drew.below (by assumption) _) (by first | omega | (simp <;> omega)))))⟩
    | true =>
      have hm := (btw1 _ _ _).1 h1
      have hD := fun W => draw_any a b m h0 hm W
      rw [h1] at hW
      rw [if_neg (by decide)]
      simp only
      generalize (drawnS ⟨a, b⟩ m).lo = d0 at hD ⊢
      generalize (drawnS ⟨a, b⟩ m).hi = d1 at hD ⊢
      generalize (leftS ⟨a, b⟩ m).lo = l0 at hD ⊢
      generalize (leftS ⟨a, b⟩ m).hi = l1 at hD ⊢
      go_enter Try.func33, Try.ntmps33
      go_wp2_with fail
      refine (hok _).mono ?_
      rintro e w1 ⟨rfl, hb1⟩
      have hz1 := hb1.size
      try simp only [World.size_alloc, World.size_setCell, World.size_drew] at hz1
      have hc1_0 := fun o => hb1.cell (p := ⟨w.heap.size, o, none⟩) (by show w.heap.size < _; first | omega | (simp only [World.size_alloc, World.size_setCell, World.size_drew]; omega))
      have hf1_0 := fun o => hb1.frozen (p := ⟨w.heap.size, o, none⟩) (by show w.heap.size < _; first | omega | (simp only [World.size_alloc, World.size_setCell, World.size_drew]; omega))
      have hz1_0 : w.heap.size < w1.heap.size := by omega
      have hc1_1 := fun o => hb1.cell (p := ⟨w.heap.size + 1, o, none⟩) (by show w.heap.size + 1 < _; first | omega | (simp only [World.size_alloc, World.size_setCell, World.size_drew]; omega))
      have hf1_1 := fun o => hb1.frozen (p := ⟨w.heap.size + 1, o, none⟩) (by show w.heap.size + 1 < _; first | omega | (simp only [World.size_alloc, World.size_setCell, World.size_drew]; omega))
      have hz1_1 : w.heap.size + 1 < w1.heap.size := by omega
      have hc1_2 := fun o => hb1.cell (p := ⟨w.heap.size + 1 + 1, o, none⟩) (by show w.heap.size + 1 + 1 < _; first | omega | (simp only [World.size_alloc, World.size_setCell, World.size_drew]; omega))
      have hf1_2 := fun o => hb1.frozen (p := ⟨w.heap.size + 1 + 1, o, none⟩) (by show w.heap.size + 1 + 1 < _; first | omega | (simp only [World.size_alloc, World.size_setCell, World.size_drew]; omega))
      have hz1_2 : w.heap.size + 1 + 1 < w1.heap.size := by omega
      have hc1_3 := fun o => hb1.cell (p := ⟨w.heap.size + 1 + 1 + 1, o, none⟩) (by show w.heap.size + 1 + 1 + 1 < _; first | omega | (simp only [World.size_alloc, World.size_setCell, World.size_drew]; omega))
      have hf1_3 := fun o => hb1.frozen (p := ⟨w.heap.size + 1 + 1 + 1, o, none⟩) (by show w.heap.size + 1 + 1 + 1 < _; first | omega | (simp only [World.size_alloc, World.size_setCell, World.size_drew]; omega))
      have hz1_3 : w.heap.size + 1 + 1 + 1 < w1.heap.size := by omega
      go_wp2_with fail
      refine (hmass _).mono ?_
      rintro e w2 ⟨rfl, hb2⟩
      have hz2 := hb2.size
      try simp only [World.size_alloc, World.size_setCell, World.size_drew] at hz2
      have hc2_0 := fun o => hb2.cell (p := ⟨w.heap.size, o, none⟩) (by show w.heap.size < _; first | omega | (simp only [World.size_alloc, World.size_setCell, World.size_drew]; omega))
      have hf2_0 := fun o => hb2.frozen (p := ⟨w.heap.size, o, none⟩) (by show w.heap.size < _; first | omega | (simp only [World.size_alloc, World.size_setCell, World.size_drew]; omega))
      have hz2_0 : w.heap.size < w2.heap.size := by omega
      have hc2_1 := fun o => hb2.cell (p := ⟨w.heap.size + 1, o, none⟩) (by show w.heap.size + 1 < _; first | omega | (simp only [World.size_alloc, World.size_setCell, World.size_drew]; omega))
      have hf2_1 := fun o => hb2.frozen (p := ⟨w.heap.size + 1, o, none⟩) (by show w.heap.size + 1 < _; first | omega | (simp only [World.size_alloc, World.size_setCell, World.size_drew]; omega))
      have hz2_1 : w.heap.size + 1 < w2.heap.size := by omega
      have hc2_2 := fun o => hb2.cell (p := ⟨w.heap.size + 1 + 1, o, none⟩) (by show w.heap.size + 1 + 1 < _; first | omega | (simp only [World.size_alloc, World.size_setCell, World.size_drew]; omega))
      have hf2_2 := fun o => hb2.frozen (p := ⟨w.heap.size + 1 + 1, o, none⟩) (by show w.heap.size + 1 + 1 < _; first | omega | (simp only [World.size_alloc, World.size_setCell, World.size_drew]; omega))
      have hz2_2 : w.heap.size + 1 + 1 < w2.heap.size := by omega
      have hc2_3 := fun o => hb2.cell (p := ⟨w.heap.size + 1 + 1 + 1, o, none⟩) (by show w.heap.size + 1 + 1 + 1 < _; first | omega | (simp only [World.size_alloc, World.size_setCell, World.size_drew]; omega))
      have hf2_3 := fun o => hb2.frozen (p := ⟨w.heap.size + 1 + 1 + 1, o, none⟩) (by show w.heap.size + 1 + 1 + 1 < _; first | omega | (simp only [World.size_alloc, World.size_setCell, World.size_drew]; omega))
      have hz2_3 : w.heap.size + 1 + 1 + 1 < w2.heap.size := by omega
      go_wp2_with fail
      refine (hW _ _ (Ints.of1 (by simp [go_sem]) (by simp))).mono ?_
      rintro e w3 ⟨rfl, hb3⟩
      have hz3 := hb3.size
      try simp only [World.size_alloc, World.size_setCell, World.size_drew] at hz3
      have hc3_0 := fun o => hb3.cell (p := ⟨w.heap.size, o, none⟩) (by show w.heap.size < _; first | omega | (simp only [World.size_alloc, World.size_setCell, World.size_drew]; omega))
      have hf3_0 := fun o => hb3.frozen (p := ⟨w.heap.size, o, none⟩) (by show w.heap.size < _; first | omega | (simp only [World.size_alloc, World.size_setCell, World.size_drew]; omega))
      have hz3_0 : w.heap.size < w3.heap.size := by omega
      have hc3_1 := fun o => hb3.cell (p := ⟨w.heap.size + 1, o, none⟩) (by show w.heap.size + 1 < _; first | omega | (simp only [World.size_alloc, World.size_setCell, World.size_drew]; omega))
      have hf3_1 := fun o => hb3.frozen (p := ⟨w.heap.size + 1, o, none⟩) (by show w.heap.size + 1 < _; first | omega | (simp only [World.size_alloc, World.size_setCell, World.size_drew]; omega))
      have hz3_1 : w.heap.size + 1 < w3.heap.size := by omega
      have hc3_2 := fun o => hb3.cell (p := ⟨w.heap.size + 1 + 1, o, none⟩) (by show w.heap.size + 1 + 1 < _; first | omega | (simp only [World.size_alloc, World.size_setCell, World.size_drew]; omega))
      have hf3_2 := fun o => hb3.frozen (p := ⟨w.heap.size + 1 + 1, o, none⟩) (by show w.heap.size + 1 + 1 < _; first | omega | (simp only [World.size_alloc, World.size_setCell, World.size_drew]; omega))
      have hz3_2 : w.heap.size + 1 + 1 < w3.heap.size := by omega
      have hc3_3 := fun o => hb3.cell (p := ⟨w.heap.size + 1 + 1 + 1, o, none⟩) (by show w.heap.size + 1 + 1 + 1 < _; first | omega | (simp only [World.size_alloc, World.size_setCell, World.size_drew]; omega))
      have hf3_3 := fun o => hb3.frozen (p := ⟨w.heap.size + 1 + 1 + 1, o, none⟩) (by show w.heap.size + 1 + 1 + 1 < _; first | omega | (simp only [World.size_alloc, World.size_setCell, World.size_drew]; omega))
      have hz3_3 : w.heap.size + 1 + 1 + 1 < w3.heap.size := by omega
      go_wp2_with fail
      refine (hD _).mono ?_
      rintro e w4 ⟨rfl, hb4⟩
      have hz4 := hb4.size
      try simp only [World.size_alloc, World.size_setCell, World.size_drew] at hz4
      have hc4_0 := fun o => hb4.cell (p := ⟨w.heap.size, o, none⟩) (by show w.heap.size < _; first | omega | (simp only [World.size_alloc, World.size_setCell, World.size_drew]; omega))
      have hf4_0 := fun o => hb4.frozen (p := ⟨w.heap.size, o, none⟩) (by show w.heap.size < _; first | omega | (simp only [World.size_alloc, World.size_setCell, World.size_drew]; omega))
      have hz4_0 : w.heap.size < w4.heap.size := by omega
      have hc4_1 := fun o => hb4.cell (p := ⟨w.heap.size + 1, o, none⟩) (by show w.heap.size + 1 < _; first | omega | (simp only [World.size_alloc, World.size_setCell, World.size_drew]; omega))
      have hf4_1 := fun o => hb4.frozen (p := ⟨w.heap.size + 1, o, none⟩) (by show w.heap.size + 1 < _; first | omega | (simp only [World.size_alloc, World.size_setCell, World.size_drew]; omega))
      have hz4_1 : w.heap.size + 1 < w4.heap.size := by omega
      have hc4_2 := fun o => hb4.cell (p := ⟨w.heap.size + 1 + 1, o, none⟩) (by show w.heap.size + 1 + 1 < _; first | omega | (simp only [World.size_alloc, World.size_setCell, World.size_drew]; omega))
      have hf4_2 := fun o => hb4.frozen (p := ⟨w.heap.size + 1 + 1, o, none⟩) (by show w.heap.size + 1 + 1 < _; first | omega | (simp only [World.size_alloc, World.size_setCell, World.size_drew]; omega))
      have hz4_2 : w.heap.size + 1 + 1 < w4.heap.size := by omega
      have hc4_3 := fun o => hb4.cell (p := ⟨w.heap.size + 1 + 1 + 1, o, none⟩) (by show w.heap.size + 1 + 1 + 1 < _; first | omega | (simp only [World.size_alloc, World.size_setCell, World.size_drew]; omega))
      have hf4_3 := fun o => hb4.frozen (p := ⟨w.heap.size + 1 + 1 + 1, o, none⟩) (by show w.heap.size + 1 + 1 + 1 < _; first | omega | (simp only [World.size_alloc, World.size_setCell, World.size_drew]; omega))
      have hz4_3 : w.heap.size + 1 + 1 + 1 < w4.heap.size := by omega
      go_wp2
      go_region
      go_wp2
      refine bodyPost_ret (v := .tuple #[.agg #[.int .i64 d0, .int .i64 d1], .agg #[.int .i64 l0, .int .i64 l1], .int .i64 0]) (by simp [results, Try.results33, go_sem, cell_set, hc1_1, hc1_2, hc2_1, hc2_2, hc3_1, hc3_2, hc4_1, hc4_2, hz2_1, hz2_2, hz4_0, hz4_1, hz4_2]) rfl ⟨rfl, (by (try show Below _ _ _); repeat (first | (with_reducible refine Below.setCell ?_ (by first | omega | (simp <;> omega)) _) | (with_reducible refine Below.alloc ?_ (by first | omega | (simp <;> omega)) _) | (with_reducible refine Below.drew ?_) | (with_reducible exact Below.refl _ _) | (with_reducible refine below_call ?_ (by assumption) (by first | omega | (simp <;> omega))) | (with_reducible refine below_call ?_ (Drew.below (by assumption) _) (by first | omega | (simp <;> omega)))))⟩

end Go.Proofs.Ytfohdafijfjefaa
