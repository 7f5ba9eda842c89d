/- Contracts: reference Value, Values. -/
import Derived.Test.YtfohdafijfjefaaRefTab
set_option linter.unusedSimpArgs false
set_option linter.unusedVariables false
namespace Go.Proofs.Ytfohdafijfjefaa
open Go.RowKit Go.Shelf
attribute [local go_sem ↓] Go.wp_at_zero Go.wp_at_succ

set_option maxRecDepth 100000 in
set_option maxHeartbeats 2000000 in
theorem refValue_any (lo : Nat) (A : Option Addr) (n c : Nat) (t : List R) (x : Int) (w : World) (hx : Ranges w lo A t) (hn : Aside (t.length = n)) (hok : tableS t = true) (hs : valueIn t x = true) :
    Calls Try.prog 68 #[.slice A n c, .int .i64 x] w fun e w' => e = .returned (.agg #[.int .i64 (valS t x).lo, .int .i64 (valS t x).hi]) ∧ Below w.heap.size w w' := by
  obtain ⟨h1, h2, h3⟩ := (tableS_iff t).1 hok
  obtain ⟨h4, h5⟩ := (btw1 _ _ _).1 hs
  obtain ⟨k, hk⟩ := seg_exists h2 h4 h5
  rw [valS_eq h1 hk]
  have hA := fun W (h : Below w.heap.size w W) => refAt_any lo A n c t x k W (hx.below h (Nat.le_refl _)) hn (by have := hn.out; omega) h1 hk
  obtain ⟨b, o, rfl, _, hlb, hc⟩ := hx (by omega)
  obtain ⟨sb1, sb2, sb3, sb4, sb5⟩ := seg_bd h1 hk
  have hk1 := hk.1
  rw [hn.out] at hk1 h2 h3
  have hc1 := hc k 1 (by have := hn.out; omega) (by omega)
  clear hc hk hok hs h1 h4 h5
  generalize t[k]?.getD R.d = a at *
  generalize t[k + 1]?.getD R.d = bb at *
  obtain ⟨a0, a1⟩ := a
  obtain ⟨b0, b1⟩ := bb
  simp only [R.cell, Nat.one_ne_zero, if_false] at hc1
  unfold valAt
  simp only at sb1 sb2 sb3 sb4 sb5 hA ⊢
  have rb := ratio_btw (b1 - a1) (x - a0) (b0 - a0) 2000000000 (by omega) (by omega) (by omega)
  have hmb : -4000000000000000000 ≤ (b1 - a1) * (x - a0) ∧ (b1 - a1) * (x - a0) ≤ 4000000000000000000 := by
    have h : ((b1 - a1) * (x - a0)).natAbs ≤ 2000000000 * 2000000000 := by
      rw [Int.natAbs_mul]
      exact Nat.mul_le_mul (by omega) (by omega)
    omega
  have hF := fun W => (floor_any ((b1 - a1) * (x - a0)) (b0 - a0) (by omega) (by omega) W).mono fun _ _ h => (⟨h.1, h.2.symm⟩ : _ ∧ _ = W)
  have hC := fun W => (ceil_any ((b1 - a1) * (x - a0)) (b0 - a0) (by omega) (by omega) W).mono fun _ _ h => (⟨h.1, h.2.symm⟩ : _ ∧ _ = W)
  generalize (b1 - a1) * (x - a0) / (b0 - a0) = fl at *
  generalize cdiv ((b1 - a1) * (x - a0)) (b0 - a0) = ce at *
  generalize (b1 - a1) * (x - a0) = num at *
  generalize b0 - a0 = den at *
  have hw1 : IntKind.i64.wrap (a1 + fl) = a1 + fl := by rw [IntKind.wrap_i64]; omega
  have hw2 : IntKind.i64.wrap (a1 + ce) = a1 + ce := by rw [IntKind.wrap_i64]; omega
  have hk0 : (0 : Int) ≤ (k : Int) := by omega
  have hkn : (k : Int) < (n : Int) := by omega
  have hkn' : k < n := by omega
  go_enter Try.func68, Try.ntmps68
  go_wp2_with fail
  refine (hA _ ((by (try show Below _ _ _); repeat (first | (with_reducible refine Below.setCell ?_ (by first | omega | (simp <;> omega)) _) | (with_reducible refine Below.alloc ?_ (by first | omega | (simp <;> omega)) _) | (with_reducible refine Below.drew ?_) | (with_reducible exact Below.refl _ _) | (with_reducible exact Below.refl _ _) | (with_reducible refine below_call ?_ (by assumption) (by first | omega | (simp <;> omega))) | (with_reducible refine below_call ?_ (Drew.below (by assumption) _) (by first | omega | (simp <;> omega))))))).mono ?_
  rintro e w1 ⟨rfl, hb1⟩
  have hz1 := hb1.size
  try simp only [World.size_alloc, World.size_setCell, World.size_drew] at hz1
  have hc1_0 := fun o => hb1.cell (p := ⟨w.heap.size, o, none⟩) (by show w.heap.size < _; first | omega | (simp only [World.size_alloc, World.size_setCell, World.size_drew]; omega))
  have hf1_0 := fun o => hb1.frozen (p := ⟨w.heap.size, o, none⟩) (by show w.heap.size < _; first | omega | (simp only [World.size_alloc, World.size_setCell, World.size_drew]; omega))
  have hz1_0 : w.heap.size < w1.heap.size := by omega
  have c1 : w1.cell? ⟨b, o + k * 2 + 1, none⟩ = some (.int .i64 a1) := (hb1.cell (p := ⟨b, o + k * 2 + 1, none⟩) (by show b < _; simp; omega)).trans (by simp [go_sem, hc1, hlb])
  have z0 : w1.cell? ⟨w.heap.size, 0, none⟩ = some (.int .i64 0) := by simp [go_sem, hc1_0]
  have z1 : w1.cell? ⟨w.heap.size, 1, none⟩ = some (.int .i64 0) := by simp [go_sem, hc1_0]
  have zf : w1.frozen? ⟨w.heap.size, 0, none⟩ = false := by simp [go_sem, hf1_0]
  have zg : w1.frozen? ⟨w.heap.size, 1, none⟩ = false := by simp [go_sem, hf1_0]
  have HB1 : Below w.heap.size w w1 := (by (try show Below _ _ _); repeat (first | (with_reducible refine Below.setCell ?_ (by first | omega | (simp <;> omega)) _) | (with_reducible refine Below.alloc ?_ (by first | omega | (simp <;> omega)) _) | (with_reducible refine Below.drew ?_) | (with_reducible exact Below.refl _ _) | (with_reducible refine below_call ?_ (by assumption) (by first | omega | (simp <;> omega))) | (with_reducible refine below_call ?_ (Drew.below (by assumption) _) (by first | omega | (simp <;> omega)))))
  clear hc1_0 hf1_0 hb1 hc1 hA
  go_wp2_with fail
  go_still_tail 19, (by kernel_rfl)
  still_call (hF _)
  repeat still_step
  still_call (hC _)
  repeat still_step
  refine wpStill_nil ?_
  change wpList _ _ _ _ _ w1.drew
  have hD : Below w1.heap.size w1 w1.drew := Drew.below ⟨1, rfl⟩ _
  generalize w1.drew = wd at hD ⊢
  have y0 := (hD.cell (p := ⟨w.heap.size, 0, none⟩) hz1_0).trans z0
  have y1 := (hD.cell (p := ⟨w.heap.size, 1, none⟩) hz1_0).trans z1
  have yf := (hD.frozen (p := ⟨w.heap.size, 0, none⟩) hz1_0).trans zf
  have yg := (hD.frozen (p := ⟨w.heap.size, 1, none⟩) hz1_0).trans zg
  have HBd : Below w.heap.size w wd := HB1.trans (hD.mono (by omega))
  have hzd : w.heap.size < wd.heap.size := by have := hD.size; omega
  clear z0 z1 zf zg hD
  go_wp2
  refine bodyPost_ret (v := .agg #[.int .i64 (a1 + fl), .int .i64 (a1 + ce)]) (by simp [results, Try.results68, go_sem, cell_set, y0, y1]) rfl ⟨rfl, (by (try show Below _ _ _); repeat (first | (with_reducible refine Below.setCell ?_ (by first | omega | (simp <;> omega)) _) | (with_reducible refine Below.alloc ?_ (by first | omega | (simp <;> omega)) _) | (with_reducible refine Below.drew ?_) | (with_reducible exact Below.refl _ _) | (with_reducible exact HBd) | (with_reducible refine below_call ?_ (by assumption) (by first | omega | (simp <;> omega))) | (with_reducible refine below_call ?_ (Drew.below (by assumption) _) (by first | omega | (simp <;> omega)))))⟩


end Go.Proofs.Ytfohdafijfjefaa
