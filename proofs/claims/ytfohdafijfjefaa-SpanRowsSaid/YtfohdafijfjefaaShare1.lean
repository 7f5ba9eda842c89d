/- Contract: span.Share of 10 by the weights 1, 1, 1. -/
import Derived.Test.YtfohdafijfjefaaSort1
import Derived.Test.YtfohdafijfjefaaRange
import Derived.Deep.DeepCutAuto
import Derived.Deep.QuietTactic
import Derived.BigQuiet
set_option linter.unusedSimpArgs false
set_option linter.unusedVariables false
namespace Go.Proofs.Ytfohdafijfjefaa
open Go.RowKit Go.Shelf

set_option maxHeartbeats 1000000 in
theorem share_cmp (bn bw bs bv x y : Nat) (hx : x < 3) (hy : y < 3) (w : World) (h1 : w.cell? ⟨bn, 0, none⟩ = some (.int .i64 10)) (h2 : w.cell? ⟨bw, 0, none⟩ = some (.slice (some ⟨bv, 0, none⟩) 3 3)) (h3 : w.cell? ⟨bs, 0, none⟩ = some (.int .i64 3))
    (c0 : w.cell? ⟨bv, 0, none⟩ = some (.int .i64 1)) (c1 : w.cell? ⟨bv, 1, none⟩ = some (.int .i64 1)) (c2 : w.cell? ⟨bv, 2, none⟩ = some (.int .i64 1)) :
    Calls Try.prog 104 #[.int .i64 x, .int .i64 y, .pointer (some ⟨bn, 0, none⟩), .pointer (some ⟨bw, 0, none⟩), .pointer (some ⟨bs, 0, none⟩)] w fun e w' => ∃ v : Int, 0 ≤ v ∧ e = .returned (.int .i64 v) ∧ Below w.heap.size w w' := by
  have hx' : x = 0 ∨ x = 1 ∨ x = 2 := by omega
  have hy' : y = 0 ∨ y = 1 ∨ y = 2 := by omega
  rcases hx' with rfl | rfl | rfl <;> rcases hy' with rfl | rfl | rfl
  all_goals
    go_enter Try.func104, Try.ntmps104
    go_wp2_with fail
    go_quiet (fail)
    go_wp2
    go_ret
    exact ⟨0, Int.le_refl _, rfl, Drew.below ⟨_, rfl⟩ _⟩

structure SumI (bv : Nat) (w w2 : World) (k : Nat) (wr : World) : Prop where
  below : Below w.heap.size w wr
  size : w2.heap.size < wr.heap.size
  s0 : wr.cell? ⟨w2.heap.size, 0, none⟩ = some (.int .i64 k)
  sf : wr.frozen? ⟨w2.heap.size, 0, none⟩ = false
  n0 : wr.cell? ⟨w.heap.size, 0, none⟩ = some (.int .i64 10)
  n1 : wr.cell? ⟨w.heap.size + 1, 0, none⟩ = some (.slice (some ⟨bv, 0, none⟩) 3 3)

structure ShI (bv : Nat) (w : World) (s p q : Nat) (o0 o1 o2 d0 d1 d2 : Int) (wr : World) : Prop where
  below : Below w.heap.size w wr
  zs : w.heap.size + 1 < s
  zs2 : s < wr.heap.size
  zp : s < p
  zp2 : p < wr.heap.size
  zq : s < q
  zq2 : q < wr.heap.size
  ne : p ≠ q
  n0 : wr.cell? ⟨w.heap.size, 0, none⟩ = some (.int .i64 10)
  n1 : wr.cell? ⟨w.heap.size + 1, 0, none⟩ = some (.slice (some ⟨bv, 0, none⟩) 3 3)
  s0 : wr.cell? ⟨s, 0, none⟩ = some (.int .i64 3)
  o0 : wr.cell? ⟨p, 0, none⟩ = some (.int .i64 o0)
  o1 : wr.cell? ⟨p, 1, none⟩ = some (.int .i64 o1)
  o2 : wr.cell? ⟨p, 2, none⟩ = some (.int .i64 o2)
  d0 : wr.cell? ⟨q, 0, none⟩ = some (.int .i64 d0)
  d1 : wr.cell? ⟨q, 1, none⟩ = some (.int .i64 d1)
  d2 : wr.cell? ⟨q, 2, none⟩ = some (.int .i64 d2)
  fp : ∀ o, wr.frozen? ⟨p, o, none⟩ = false
  fq : ∀ o, wr.frozen? ⟨q, o, none⟩ = false

set_option maxRecDepth 100000 in
set_option maxHeartbeats 4000000 in
theorem Share_known (bv : Nat) (w : World) (hbv : bv < w.heap.size) (c0 : w.cell? ⟨bv, 0, none⟩ = some (.int .i64 1)) (c1 : w.cell? ⟨bv, 1, none⟩ = some (.int .i64 1)) (c2 : w.cell? ⟨bv, 2, none⟩ = some (.int .i64 1)) :
    Calls Try.prog 37 #[.int .i64 10, .slice (some ⟨bv, 0, none⟩) 3 3] w fun e w' => ∃ p : Nat, e = .returned (.tuple #[.slice (some ⟨p, 0, none⟩) 3 3, .int .i64 0]) ∧ w'.cell? ⟨p, 0, none⟩ = some (.int .i64 4) ∧ Below w.heap.size w w' := by
  have hI1 := fun (A : Option Addr) (W : World) h => span_within 0 2000000000000 0 A 1 1 [10] W h rfl one_le
  have hI2 := fun (W : World) h => span_within 0 1000000 0 (some ⟨bv, 0, none⟩) 3 3 [1, 1, 1] W h rfl three_le
  rw [show btw 0 2000000000000 [10] = true by decide] at hI1
  rw [show btw 0 1000000 [1, 1, 1] = true by decide] at hI2
  have hints : ∀ W : World, Below w.heap.size w W → Ints W 0 (some ⟨bv, 0, none⟩) [1, 1, 1] := fun W hW =>
    Ints.of3 ((hW.cell (by exact hbv)).trans c0) ((hW.cell (by exact hbv)).trans c1) ((hW.cell (by exact hbv)).trans c2) (Nat.lt_of_lt_of_le hbv hW.size)
  have Hints := Lib.hid hints
  clear hints
  go_enter Try.func37, Try.ntmps37
  go_wp2_with fail
  refine (hI1 _ _ (Ints.of1 (by simp [go_sem]) (by simp))).mono ?_
  rintro e w1 ⟨rfl, hb1⟩
  have hz1 := hb1.size
  try simp only [World.size_alloc, World.size_setCell, World.size_drew] at hz1
  have hc1_0 := fun o => hb1.cell (p := ⟨w.heap.size, o, none⟩) (by show w.heap.size < _; first | omega | (simp only [World.size_alloc, World.size_setCell, World.size_drew]; omega))
  have hf1_0 := fun o => hb1.frozen (p := ⟨w.heap.size, o, none⟩) (by show w.heap.size < _; first | omega | (simp only [World.size_alloc, World.size_setCell, World.size_drew]; omega))
  have hz1_0 : w.heap.size < w1.heap.size := by omega
  have hc1_1 := fun o => hb1.cell (p := ⟨w.heap.size + 1, o, none⟩) (by show w.heap.size + 1 < _; first | omega | (simp only [World.size_alloc, World.size_setCell, World.size_drew]; omega))
  have hf1_1 := fun o => hb1.frozen (p := ⟨w.heap.size + 1, o, none⟩) (by show w.heap.size + 1 < _; first | omega | (simp only [World.size_alloc, World.size_setCell, World.size_drew]; omega))
  have hz1_1 : w.heap.size + 1 < w1.heap.size := by omega
  have hB1 : Below w.heap.size w w1 := (by (try show Below _ _ _); repeat (first | (with_reducible refine Below.setCell ?_ (by first | omega | (simp <;> omega)) _) | (with_reducible refine Below.alloc ?_ (by first | omega | (simp <;> omega)) _) | (with_reducible refine Below.drew ?_) | (with_reducible exact Below.refl _ _) | (with_reducible refine below_call ?_ (by assumption) (by first | omega | (simp <;> omega))) | (with_reducible refine below_call ?_ (Drew.below (by assumption) _) (by first | omega | (simp <;> omega)))))
  have g1 : w1.cell? ⟨w.heap.size, 0, none⟩ = some (.int .i64 10) := by simp [go_sem, hc1_0]
  have g2 : w1.cell? ⟨w.heap.size + 1, 0, none⟩ = some (.slice (some ⟨bv, 0, none⟩) 3 3) := by simp [go_sem, hc1_1]
  clear hc1_0 hc1_1 hf1_0 hf1_1
  go_wp2_with fail
  refine (hI2 _ (Hints.out _ hB1)).mono ?_
  rintro e w2 ⟨rfl, hb2⟩
  have hz2 := hb2.size
  try simp only [World.size_alloc, World.size_setCell, World.size_drew] at hz2
  have hc2_0 := fun o => hb2.cell (p := ⟨w.heap.size, o, none⟩) (by show w.heap.size < _; first | omega | (simp only [World.size_alloc, World.size_setCell, World.size_drew]; omega))
  have hf2_0 := fun o => hb2.frozen (p := ⟨w.heap.size, o, none⟩) (by show w.heap.size < _; first | omega | (simp only [World.size_alloc, World.size_setCell, World.size_drew]; omega))
  have hz2_0 : w.heap.size < w2.heap.size := by omega
  have hc2_1 := fun o => hb2.cell (p := ⟨w.heap.size + 1, o, none⟩) (by show w.heap.size + 1 < _; first | omega | (simp only [World.size_alloc, World.size_setCell, World.size_drew]; omega))
  have hf2_1 := fun o => hb2.frozen (p := ⟨w.heap.size + 1, o, none⟩) (by show w.heap.size + 1 < _; first | omega | (simp only [World.size_alloc, World.size_setCell, World.size_drew]; omega))
  have hz2_1 : w.heap.size + 1 < w2.heap.size := by omega
  have hB2 : Below w.heap.size w w2 := hB1.trans (hb2.mono (by omega))
  have k1 : w2.cell? ⟨w.heap.size, 0, none⟩ = some (.int .i64 10) := by rw [hc2_0, g1]
  have k2 : w2.cell? ⟨w.heap.size + 1, 0, none⟩ = some (.slice (some ⟨bv, 0, none⟩) 3 3) := by rw [hc2_1, g2]
  clear hc2_0 hc2_1 hf2_0 hf2_1 g1 g2 hb1 hb2 hI1 hI2
  have hzz : w2.heap.size < (w2.alloc (.cells #[.int .i64 0] 3)).heap.size := by simp
  have hW0 : Below w.heap.size w (w2.alloc (.cells #[.int .i64 0] 3)) := (by (try show Below _ _ _); repeat (first | (with_reducible refine Below.setCell ?_ (by first | omega | (simp <;> omega)) _) | (with_reducible refine Below.alloc ?_ (by first | omega | (simp <;> omega)) _) | (with_reducible refine Below.drew ?_) | (with_reducible exact Below.refl _ _) | (with_reducible exact hB2) | (with_reducible refine below_call ?_ (by assumption) (by first | omega | (simp <;> omega))) | (with_reducible refine below_call ?_ (Drew.below (by assumption) _) (by first | omega | (simp <;> omega)))))
  go_wp2
  go_loopg [8, 31] (3) (fun gg s8 i wr => ∃ k : Nat, k ≤ 3 ∧ 3 - k ≤ gg ∧ i = .int .i64 k ∧ Aside (SumI bv w w2 k wr))
  case atStart =>
    exact ⟨0, by omega, by omega, rfl, { below := hW0, size := hzz, s0 := by simp [go_sem], sf := by simp [go_sem], n0 := by simp [go_sem, k1, hz2_0], n1 := by simp [go_sem, k2, hz2_1] }⟩
  case round =>
    obtain ⟨k, hk, hg, rfl, I⟩ := hrel
    obtain ⟨hb0, hs, s0, sf, n0, n1⟩ := I.out
    clear I
    have hk' : k = 0 ∨ k = 1 ∨ k = 2 ∨ k = 3 := by omega
    have hr0 : wr.cell? ⟨bv, 0, none⟩ = some (.int .i64 1) := (hb0.cell (by exact hbv)).trans c0
    have hr1 : wr.cell? ⟨bv, 1, none⟩ = some (.int .i64 1) := (hb0.cell (by exact hbv)).trans c1
    have hr2 : wr.cell? ⟨bv, 2, none⟩ = some (.int .i64 1) := (hb0.cell (by exact hbv)).trans c2
    have hne : bv ≠ w2.heap.size := by omega
    have hne2 : w.heap.size ≠ w2.heap.size := by omega
    have hne3 : w.heap.size + 1 ≠ w2.heap.size := by omega
    rcases hk' with rfl | rfl | rfl | rfl
    · go_wp2
      go_roundg (2)
      case measure => omega
      case rel =>
        exact ⟨1, by omega, by omega, by go_num, { below := (by (try show Below _ _ _); repeat (first | (with_reducible refine Below.setCell ?_ (by first | omega | (simp <;> omega)) _) | (with_reducible refine Below.alloc ?_ (by first | omega | (simp <;> omega)) _) | (with_reducible refine Below.drew ?_) | (with_reducible exact Below.refl _ _) | (with_reducible exact hb0) | (with_reducible refine below_call ?_ (by assumption) (by first | omega | (simp <;> omega))) | (with_reducible refine below_call ?_ (Drew.below (by assumption) _) (by first | omega | (simp <;> omega))))), size := (by simp; omega), s0 := (by simp [go_sem, cell_set, s0]), sf := (by simp [go_sem, sf]), n0 := (by simp [go_sem, n0]), n1 := (by simp [go_sem, n1]) }⟩
    · go_wp2
      go_roundg (1)
      case measure => omega
      case rel =>
        exact ⟨2, by omega, by omega, by go_num, { below := (by (try show Below _ _ _); repeat (first | (with_reducible refine Below.setCell ?_ (by first | omega | (simp <;> omega)) _) | (with_reducible refine Below.alloc ?_ (by first | omega | (simp <;> omega)) _) | (with_reducible refine Below.drew ?_) | (with_reducible exact Below.refl _ _) | (with_reducible exact hb0) | (with_reducible refine below_call ?_ (by assumption) (by first | omega | (simp <;> omega))) | (with_reducible refine below_call ?_ (Drew.below (by assumption) _) (by first | omega | (simp <;> omega))))), size := (by simp; omega), s0 := (by simp [go_sem, cell_set, s0]), sf := (by simp [go_sem, sf]), n0 := (by simp [go_sem, n0]), n1 := (by simp [go_sem, n1]) }⟩
    · go_wp2
      go_roundg (0)
      case measure => omega
      case rel =>
        exact ⟨3, by omega, by omega, by go_num, { below := (by (try show Below _ _ _); repeat (first | (with_reducible refine Below.setCell ?_ (by first | omega | (simp <;> omega)) _) | (with_reducible refine Below.alloc ?_ (by first | omega | (simp <;> omega)) _) | (with_reducible refine Below.drew ?_) | (with_reducible exact Below.refl _ _) | (with_reducible exact hb0) | (with_reducible refine below_call ?_ (by assumption) (by first | omega | (simp <;> omega))) | (with_reducible refine below_call ?_ (Drew.below (by assumption) _) (by first | omega | (simp <;> omega))))), size := (by simp; omega), s0 := (by simp [go_sem, cell_set, s0]), sf := (by simp [go_sem, sf]), n0 := (by simp [go_sem, n0]), n1 := (by simp [go_sem, n1]) }⟩
    · clear hne hne2 hne3 k1 k2 hB1 hB2 hzz hW0 hz1 hz1_0 hz1_1
      have hw0 : w.heap.size < wr.heap.size := by omega
      have hw1 : w.heap.size + 1 < wr.heap.size := by omega
      go_upto_region 15 with (fail)
      go_cut [9, 10, 11] (fun s9 s10 s11 wx => ∃ p q : Nat, s9 = .slice (some ⟨p, 0, none⟩) 3 3 ∧ s10 = .slice (some ⟨q, 0, none⟩) 3 3 ∧ s11 = .int .i64 10 ∧ Aside (ShI bv w w2.heap.size p q 0 0 0 0 0 0 wx))
      case first =>
        have hmk : ∀ W : World, (Instr.makeSlice 41 (.int .i64 3) (.int .i64 3)).run Try.prog W = .ok (.slice (some ⟨W.heap.size, 0, none⟩) 3 3) (W.alloc (.cells #[.int .i64 0, .int .i64 0, .int .i64 0] 3)) := fun W => by
          kernel_rfl
        go_region
        all_goals
          go_wp2
          go_meet
          exact ⟨_, _, rfl, rfl, rfl, { below := (by (try show Below _ _ _); repeat (first | (with_reducible refine Below.setCell ?_ (by first | omega | (simp <;> omega)) _) | (with_reducible refine Below.alloc ?_ (by first | omega | (simp <;> omega)) _) | (with_reducible refine Below.drew ?_) | (with_reducible exact Below.refl _ _) | (with_reducible exact hb0) | (with_reducible refine below_call ?_ (by assumption) (by first | omega | (simp <;> omega))) | (with_reducible refine below_call ?_ (Drew.below (by assumption) _) (by first | omega | (simp <;> omega))))), zs := (by omega), zs2 := (by simp <;> omega), zp := (by first | omega | (simp <;> omega)), zp2 := (by simp <;> omega), zq := (by first | omega | (simp <;> omega)), zq2 := (by simp <;> omega), ne := (by simp), n0 := (by simp [go_sem, n0, hw0]), n1 := (by simp [go_sem, n1, hw1, hw0]), s0 := (by simp [go_sem, s0, hs]), o0 := (by simp [go_sem]), o1 := (by simp [go_sem]), o2 := (by simp [go_sem]), d0 := (by simp [go_sem]), d1 := (by simp [go_sem]), d2 := (by simp [go_sem]), fp := (fun o => by simp [go_sem]), fq := (fun o => by simp [go_sem]) }⟩
      case rest =>
        obtain ⟨p, q, rfl, rfl, rfl, I⟩ := hcut
        obtain ⟨wx, hwx, I'⟩ : ∃ wx, wx = _ ∧ ShI bv w w2.heap.size p q 0 0 0 0 0 0 wx := ⟨_, rfl, I.out⟩
        subst hwx
        clear I
        have hpv : bv ≠ p ∧ bv ≠ q ∧ w.heap.size ≠ p ∧ w.heap.size ≠ q ∧ w.heap.size + 1 ≠ p ∧ w.heap.size + 1 ≠ q ∧ w2.heap.size ≠ p ∧ w2.heap.size ≠ q ∧ p ≠ q := by
          have := I'.zp; have := I'.zq; have := I'.ne
          refine ⟨by omega, by omega, by omega, by omega, by omega, by omega, by omega, by omega, by omega⟩
        obtain ⟨e1, e2, e3, e4, e5, e6, e7, e8, e9⟩ := hpv
        have hxn1 := I'.n1
        have J := Lib.hid I'
        clear I' hr0 hr1 hr2 n0 n1 s0 sf hs hb0 hw0 hw1
        go_wp2
        go_loopg [11, 50] (3) (fun gg s11 i wr => ∃ k : Nat, k ≤ 3 ∧ 3 - k ≤ gg ∧ i = .int .i64 k ∧ s11 = .int .i64 (10 - 3 * (k : Int)) ∧ Aside (ShI bv w w2.heap.size p q (if 0 < k then 3 else 0) (if 1 < k then 3 else 0) (if 2 < k then 3 else 0) 0 (if 1 < k then 1 else 0) (if 2 < k then 2 else 0) wr))
        case atStart => exact ⟨0, by omega, by omega, rfl, rfl, J.out⟩
        case round =>
          obtain ⟨k, hk, hg, rfl, rfl, I⟩ := hrel
          obtain ⟨hb0, zs, zs2, zp, zp2, zq, zq2, ne, n0, n1, s0, o0, o1, o2, d0, d1, d2, fp, fq⟩ := I.out
          clear I
          have hr0 := (hb0.cell (p := ⟨bv, 0, none⟩) (by exact hbv)).trans c0
          have hr1 := (hb0.cell (p := ⟨bv, 1, none⟩) (by exact hbv)).trans c1
          have hr2 := (hb0.cell (p := ⟨bv, 2, none⟩) (by exact hbv)).trans c2
          have hk' : k = 0 ∨ k = 1 ∨ k = 2 ∨ k = 3 := by omega
          have fp0 := fp 0
          have fp1 := fp 1
          have fp2 := fp 2
          have fq0 := fq 0
          have fq1 := fq 1
          have fq2 := fq 2
          have Fp := Lib.hid fp
          have Fq := Lib.hid fq
          clear fp fq
          rcases hk' with rfl | rfl | rfl | rfl
          · simp at o0 o1 o2 d0 d1 d2
            go_wp2
            go_roundg (2)
            case measure => omega
            case rel =>
              exact ⟨1, by omega, by omega, by go_num, by go_num, { below := (by (try show Below _ _ _); repeat (first | (with_reducible refine Below.setCell ?_ (by first | omega | (simp <;> omega)) _) | (with_reducible refine Below.alloc ?_ (by first | omega | (simp <;> omega)) _) | (with_reducible refine Below.drew ?_) | (with_reducible exact Below.refl _ _) | (with_reducible exact hb0) | (with_reducible refine below_call ?_ (by assumption) (by first | omega | (simp <;> omega))) | (with_reducible refine below_call ?_ (Drew.below (by assumption) _) (by first | omega | (simp <;> omega))))), zs := zs, zs2 := (by simp; omega), zp := zp, zp2 := (by simp; omega), zq := zq, zq2 := (by simp; omega), ne := ne, n0 := (by simp [go_sem, cell_set, n0, e3, e4, Ne.symm e3, Ne.symm e4]), n1 := (by simp [go_sem, cell_set, n1, e5, e6, Ne.symm e5, Ne.symm e6]), s0 := (by simp [go_sem, cell_set, s0, e7, e8, Ne.symm e7, Ne.symm e8]), o0 := (by simp [go_sem, cell_set, o0, e9, Ne.symm e9]), o1 := (by simp [go_sem, cell_set, o1, e9, Ne.symm e9]), o2 := (by simp [go_sem, cell_set, o2, e9, Ne.symm e9]), d0 := (by simp [go_sem, cell_set, d0, e9, Ne.symm e9]), d1 := (by simp [go_sem, cell_set, d1, e9, Ne.symm e9]), d2 := (by simp [go_sem, cell_set, d2, e9, Ne.symm e9]), fp := (fun o => by simp [go_sem, Fp.out o]), fq := (fun o => by simp [go_sem, Fq.out o]) }⟩
          · simp at o0 o1 o2 d0 d1 d2
            go_wp2
            go_roundg (1)
            case measure => omega
            case rel =>
              exact ⟨2, by omega, by omega, by go_num, by go_num, { below := (by (try show Below _ _ _); repeat (first | (with_reducible refine Below.setCell ?_ (by first | omega | (simp <;> omega)) _) | (with_reducible refine Below.alloc ?_ (by first | omega | (simp <;> omega)) _) | (with_reducible refine Below.drew ?_) | (with_reducible exact Below.refl _ _) | (with_reducible exact hb0) | (with_reducible refine below_call ?_ (by assumption) (by first | omega | (simp <;> omega))) | (with_reducible refine below_call ?_ (Drew.below (by assumption) _) (by first | omega | (simp <;> omega))))), zs := zs, zs2 := (by simp; omega), zp := zp, zp2 := (by simp; omega), zq := zq, zq2 := (by simp; omega), ne := ne, n0 := (by simp [go_sem, cell_set, n0, e3, e4, Ne.symm e3, Ne.symm e4]), n1 := (by simp [go_sem, cell_set, n1, e5, e6, Ne.symm e5, Ne.symm e6]), s0 := (by simp [go_sem, cell_set, s0, e7, e8, Ne.symm e7, Ne.symm e8]), o0 := (by simp [go_sem, cell_set, o0, e9, Ne.symm e9]), o1 := (by simp [go_sem, cell_set, o1, e9, Ne.symm e9]), o2 := (by simp [go_sem, cell_set, o2, e9, Ne.symm e9]), d0 := (by simp [go_sem, cell_set, d0, e9, Ne.symm e9]), d1 := (by simp [go_sem, cell_set, d1, e9, Ne.symm e9]), d2 := (by simp [go_sem, cell_set, d2, e9, Ne.symm e9]), fp := (fun o => by simp [go_sem, Fp.out o]), fq := (fun o => by simp [go_sem, Fq.out o]) }⟩
          · simp at o0 o1 o2 d0 d1 d2
            go_wp2
            go_roundg (0)
            case measure => omega
            case rel =>
              exact ⟨3, by omega, by omega, by go_num, by go_num, { below := (by (try show Below _ _ _); repeat (first | (with_reducible refine Below.setCell ?_ (by first | omega | (simp <;> omega)) _) | (with_reducible refine Below.alloc ?_ (by first | omega | (simp <;> omega)) _) | (with_reducible refine Below.drew ?_) | (with_reducible exact Below.refl _ _) | (with_reducible exact hb0) | (with_reducible refine below_call ?_ (by assumption) (by first | omega | (simp <;> omega))) | (with_reducible refine below_call ?_ (Drew.below (by assumption) _) (by first | omega | (simp <;> omega))))), zs := zs, zs2 := (by simp; omega), zp := zp, zp2 := (by simp; omega), zq := zq, zq2 := (by simp; omega), ne := ne, n0 := (by simp [go_sem, cell_set, n0, e3, e4, Ne.symm e3, Ne.symm e4]), n1 := (by simp [go_sem, cell_set, n1, e5, e6, Ne.symm e5, Ne.symm e6]), s0 := (by simp [go_sem, cell_set, s0, e7, e8, Ne.symm e7, Ne.symm e8]), o0 := (by simp [go_sem, cell_set, o0, e9, Ne.symm e9]), o1 := (by simp [go_sem, cell_set, o1, e9, Ne.symm e9]), o2 := (by simp [go_sem, cell_set, o2, e9, Ne.symm e9]), d0 := (by simp [go_sem, cell_set, d0, e9, Ne.symm e9]), d1 := (by simp [go_sem, cell_set, d1, e9, Ne.symm e9]), d2 := (by simp [go_sem, cell_set, d2, e9, Ne.symm e9]), fp := (fun o => by simp [go_sem, Fp.out o]), fq := (fun o => by simp [go_sem, Fq.out o]) }⟩
          · simp at o0 o1 o2 d0 d1 d2 s0
            have hcmp : CmpUp Try.prog 104 #[.pointer (some ⟨w.heap.size, 0, none⟩), .pointer (some ⟨w.heap.size + 1, 0, none⟩), .pointer (some ⟨w2.heap.size, 0, none⟩)] [0, 1, 2] wr := by
              intro j W hj hW
              have hjj : j = 0 ∨ j = 1 := by simp at hj; omega
              have m1 := (hW.cell (p := ⟨w.heap.size, 0, none⟩) (show w.heap.size < wr.heap.size by omega)).trans n0
              have m2 := (hW.cell (p := ⟨w.heap.size + 1, 0, none⟩) (show w.heap.size + 1 < wr.heap.size by omega)).trans n1
              have m3 := (hW.cell (p := ⟨w2.heap.size, 0, none⟩) (show w2.heap.size < wr.heap.size by omega)).trans s0
              have hbw : bv < wr.heap.size := by omega
              have m4 := (hW.cell (p := ⟨bv, 0, none⟩) hbw).trans hr0
              have m5 := (hW.cell (p := ⟨bv, 1, none⟩) hbw).trans hr1
              have m6 := (hW.cell (p := ⟨bv, 2, none⟩) hbw).trans hr2
              rcases hjj with rfl | rfl
              · exact share_cmp w.heap.size (w.heap.size + 1) w2.heap.size bv 1 0 (by omega) (by omega) W m1 m2 m3 m4 m5 m6
              · exact share_cmp w.heap.size (w.heap.size + 1) w2.heap.size bv 2 1 (by omega) (by omega) W m1 m2 m3 m4 m5 m6
            have hS := sortStable_up 104 #[.pointer (some ⟨w.heap.size, 0, none⟩), .pointer (some ⟨w.heap.size + 1, 0, none⟩), .pointer (some ⟨w2.heap.size, 0, none⟩)] q 0 3 3 [0, 1, 2] wr (fun _ _ => rfl) (fun j hj => by
              have hj3 : j = 0 ∨ j = 1 ∨ j = 2 := by omega
              rcases hj3 with rfl | rfl | rfl
              · exact d0
              · exact d1
              · exact d2) zq2 rfl (by omega) hcmp
            clear hcmp
            have Hb0 := Lib.hid hb0
            have Hr := Lib.hid (And.intro hr0 (And.intro hr1 hr2))
            clear hr0 hr1 hr2
            go_wp2_with (go_at_call 103; refine hS.mono ?_; rintro e w3 ⟨⟨u, rfl⟩, hb3⟩; have t0 := (hb3.cell (p := ⟨p, 0, none⟩) zp2).trans o0; have t1 := (hb3.cell (p := ⟨q, 0, none⟩) zq2).trans d0; have t2 := (hb3.frozen (p := ⟨p, 0, none⟩) zp2).trans fp0; have t3 := hb3.size)
            go_loopg [81] (1) (fun gg i wy => ∃ k : Nat, k ≤ 1 ∧ 1 - k ≤ gg ∧ i = .int .i64 k ∧ Aside (Below w.heap.size w wy ∧ p < wy.heap.size ∧ wy.cell? ⟨p, 0, none⟩ = some (.int .i64 (if 0 < k then 4 else 3)) ∧ wy.cell? ⟨q, 0, none⟩ = some (.int .i64 0) ∧ wy.frozen? ⟨p, 0, none⟩ = false))
            case atStart => exact ⟨0, by omega, by omega, rfl, Hb0.out.trans (hb3.mono Hb0.out.size), by omega, t0, t1, t2⟩
            case round =>
              obtain ⟨k, hk, hg, rfl, I⟩ := hrel
              obtain ⟨hby, hzy, y0, y1, y2⟩ := I.out
              clear I hS
              have hk' : k = 0 ∨ k = 1 := by omega
              rcases hk' with rfl | rfl
              · simp at y0
                go_wp2
                go_roundg (0)
                case measure => omega
                case rel =>
                  exact ⟨1, by omega, by omega, by go_num, (by (try show Below _ _ _); repeat (first | (with_reducible refine Below.setCell ?_ (by first | omega | (simp <;> omega)) _) | (with_reducible refine Below.alloc ?_ (by first | omega | (simp <;> omega)) _) | (with_reducible refine Below.drew ?_) | (with_reducible exact Below.refl _ _) | (with_reducible exact hby) | (with_reducible refine below_call ?_ (by assumption) (by first | omega | (simp <;> omega))) | (with_reducible refine below_call ?_ (Drew.below (by assumption) _) (by first | omega | (simp <;> omega))))), (by simp <;> omega), (by simp [go_sem, cell_set, y0]), (by simp [go_sem, cell_set, y1, e9, Ne.symm e9]), (by simp [go_sem, y2])⟩
              · simp at y0
                go_wp2
                refine bodyPost_ret (v := .tuple #[.slice (some ⟨p, 0, none⟩) 3 3, .int .i64 0]) (by simp [results, Try.results37, go_sem]) rfl ⟨p, rfl, y0, hby⟩

end Go.Proofs.Ytfohdafijfjefaa
