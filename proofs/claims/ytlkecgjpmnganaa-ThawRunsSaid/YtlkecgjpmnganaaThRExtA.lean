/- Contracts: the reference's Extreme, the whole. -/
import Derived.Test.YtlkecgjpmnganaaThRExtL
set_option linter.unusedSimpArgs false
set_option linter.unusedVariables false
namespace Go.Proofs.Ytlkecgjpmnganaa
open Go.RowKit Go.Shelf

theorem infoTab2 : (Try.prog.info? 141).map (fun i => (i.zero, i.size, i.bytes)) = some (some (.agg Try.zeroCells141), 1891, 15128) := by kernel_rfl
theorem zero_tab2 : Try.zeroCells141.toList = List.replicate 1891 (Value.int .i64 0) := by kernel_rfl
theorem zero_tab2_size : Try.zeroCells141.size = 1891 := by rw [← Array.length_toList, zero_tab2, List.length_replicate]
theorem made_at2 (N j : Nat) (h : j < N) : (madeCells Try.zeroCells141 N)[j]? = some (.int .i64 0) := by
  have hm : j % 1891 < 1891 := Nat.mod_lt _ (by omega)
  have h1 : Try.zeroCells141[j % 1891]? = some (.int .i64 0) := by
    rw [← Array.getElem?_toList, zero_tab2, List.getElem?_replicate, if_pos hm]
  have h2 : Try.zeroCells141[j % 1891]! = .int .i64 0 := by
    rw [getElem!_def, h1]
  simp only [madeCells, zero_tab2_size, Array.getElem?_map, Array.getElem?_range, h, if_true, Option.map_some, h2]
theorem run_make_tabs (m : Nat) (hm : m ≤ 1001) (x : Int) (hx : x = (m : Int)) (w : World) : (Instr.makeSlice 138 (.int .i64 x) (.int .i64 x)).run Try.prog w = .ok (.slice (some ⟨w.heap.size, 0, none⟩) m m) (w.alloc (.cells (madeCells Try.zeroCells141 (m * 1891)) 141)) := by
  subst hx
  obtain ⟨i5, hi5, hz5, hs5, hb5⟩ := info_parts infoTab2
  have := run_makeSlice (P := Try.prog) w 138 141 i5 _ Try.underlying138 hi5 hz5 .i64 .i64 (m : Int) (m : Int) (by omega) (Int.le_refl _) (by rw [hs5]; omega) (by rw [hb5]; omega) (by omega)
  rw [hs5, show ((m : Int)).toNat = m by omega] at this
  exact this
theorem made_wrt (X : World) (N : Nat) (t : TypeId) : Wrt (X.alloc (.cells (madeCells Try.zeroCells141 N) t)) X.heap.size N :=
  ⟨fun o ho => ⟨_, by rw [cell_of_row _ _ _ _ _ _ (heap_alloc_new X _)]; exact made_at2 N o ho⟩, fun o => frozen_of_row _ _ _ _ _ (heap_alloc_new X _)⟩
theorem made_cell (X : World) (N : Nat) (t : TypeId) (o : Nat) (ho : o < N) : (X.alloc (.cells (madeCells Try.zeroCells141 N) t)).cell? ⟨X.heap.size, o, none⟩ = some (.int .i64 0) := by
  rw [cell_of_row _ _ _ _ _ _ (heap_alloc_new X _)]; exact made_at2 N o ho

set_option maxRecDepth 100000 in
set_option maxHeartbeats 4000000 in
theorem refExtreme_any (r : TR) (hr : TROk r) (c i : Int) (hst0 : stIn r (c, i)) (most : Bool) (lo : Nat) (A : Option Addr) (n cc : Nat) (ts : List R) (w : World) (hx : Ranges w lo A ts) (hn : Aside (ts.length = n)) (hl : n ≤ 1000) (hok : Aside (ts.all okT = true)) :
    Calls Try.prog 37 #[rV r, .agg #[.int .i64 c, .int .i64 i], .slice A n cc, .bool most] w (RExtPost w (extS r most ts (c, i))) := by
  obtain ⟨c, i, hc, hi, e⟩ := in_nat hr hst0
  obtain ⟨rfl, rfl⟩ := Prod.mk.inj e
  have hst : Aside (stIn r ((c : Int), (i : Int))) := hst0
  have HX : Aside (Ranges w lo A ts) := hx
  have HW : Aside (∀ k, k < n → -600 ≤ (ts[k]?.getD R.d).lo ∧ (ts[k]?.getD R.d).lo ≤ (ts[k]?.getD R.d).hi ∧ (ts[k]?.getD R.d).hi ≤ 600) := fun k hk => by
    have hk2 : k < ts.length := by have := hn.out; omega
    have h1 := List.all_eq_true.1 hok.out ts[k] (List.getElem_mem hk2)
    rw [List.getElem?_eq_getElem hk2, Option.getD_some]
    simp [okT, btw] at h1
    omega
  rw [show rV r = .agg #[.int .i64 r.frost, .int .i64 r.thaw, .int .i64 r.gain, .int .i64 r.full, .int .i64 r.ice, .int .i64 r.most, .int .i64 r.melt, .int .i64 r.rlow, .int .i64 r.rhigh, .int .i64 r.pull] from rfl]
  have hmL := fun W => run_make_tabs (n + 1) (by omega) ((n : Int) + 1) (by omega) W
  have hmP := fun W => run_make_tabs n (by omega) (n : Int) rfl W
  have wn : wrap64 ((n : Int) + 1) = (n : Int) + 1 := IntWalk.wrap64_in _ ⟨by omega, by omega⟩
  clear hst0 hx hok e
  go_enter Try.func37, Try.ntmps37
  refine wp_tail 3 (R := rextTail3) (show rextTail3 = dropC 3 (bodyC Try.f37) from rfl) ?_
  conv => arg 2; simp only [bodyC, Try.f37, Option.getD_some, dropC, mkC]
  go_upto_region 1 with fail
  obtain ⟨E0, hNE0⟩ : ∃ X, X = w.alloc (.cells #[.int .i64 r.frost, .int .i64 r.thaw, .int .i64 r.gain, .int .i64 r.full, .int .i64 r.ice, .int .i64 r.most, .int .i64 r.melt, .int .i64 r.rlow, .int .i64 r.rhigh, .int .i64 r.pull] 25) := ⟨_, rfl⟩
  have hsE0 : E0.heap.size = w.heap.size + 1 := by rw [hNE0]; simp
  have hbE0 : Below w.heap.size w E0 := by rw [hNE0]; exact (Below.refl _ _).alloc (Nat.le_refl _) _
  have q0 : E0.cell? ⟨w.heap.size, 0, none⟩ = some (.int .i64 r.frost) := by rw [hNE0]; simp [go_sem]
  have q1 : E0.cell? ⟨w.heap.size, 1, none⟩ = some (.int .i64 r.thaw) := by rw [hNE0]; simp [go_sem]
  have q2 : E0.cell? ⟨w.heap.size, 2, none⟩ = some (.int .i64 r.gain) := by rw [hNE0]; simp [go_sem]
  have q3 : E0.cell? ⟨w.heap.size, 3, none⟩ = some (.int .i64 r.full) := by rw [hNE0]; simp [go_sem]
  have q4 : E0.cell? ⟨w.heap.size, 4, none⟩ = some (.int .i64 r.ice) := by rw [hNE0]; simp [go_sem]
  have q5 : E0.cell? ⟨w.heap.size, 5, none⟩ = some (.int .i64 r.most) := by rw [hNE0]; simp [go_sem]
  have q6 : E0.cell? ⟨w.heap.size, 6, none⟩ = some (.int .i64 r.melt) := by rw [hNE0]; simp [go_sem]
  have q7 : E0.cell? ⟨w.heap.size, 7, none⟩ = some (.int .i64 r.rlow) := by rw [hNE0]; simp [go_sem]
  have q8 : E0.cell? ⟨w.heap.size, 8, none⟩ = some (.int .i64 r.rhigh) := by rw [hNE0]; simp [go_sem]
  have q9 : E0.cell? ⟨w.heap.size, 9, none⟩ = some (.int .i64 r.pull) := by rw [hNE0]; simp [go_sem]
  rw [← hNE0]
  clear hNE0
  obtain ⟨E1, hNE1⟩ : ∃ X, X = E0.alloc (.cells #[.int .i64 (c : Int), .int .i64 (i : Int)] 27) := ⟨_, rfl⟩
  have hsE1 : E1.heap.size = w.heap.size + 1 + 1 := by rw [hNE1]; simp; omega
  have hbE1 : Below E0.heap.size E0 E1 := by rw [hNE1]; exact (Below.refl _ _).alloc (Nat.le_refl _) _
  have s0 : E1.cell? ⟨w.heap.size + 1, 0, none⟩ = some (.int .i64 (c : Int)) := by rw [hNE1, ← hsE0]; simp [go_sem]
  have s1 : E1.cell? ⟨w.heap.size + 1, 1, none⟩ = some (.int .i64 (i : Int)) := by rw [hNE1, ← hsE0]; simp [go_sem]
  have v0 : E1.frozen? ⟨w.heap.size + 1, 0, none⟩ = false := by rw [hNE1, ← hsE0]; simp [go_sem]
  have v1 : E1.frozen? ⟨w.heap.size + 1, 1, none⟩ = false := by rw [hNE1, ← hsE0]; simp [go_sem]
  rw [← hNE1]
  clear hNE1
  have hcE0 : Below E0.heap.size E0 E1 := hbE1
  replace q0 := (hcE0.cell (p := ⟨w.heap.size, 0, none⟩) (by show w.heap.size < _; omega)).trans q0
  replace q1 := (hcE0.cell (p := ⟨w.heap.size, 1, none⟩) (by show w.heap.size < _; omega)).trans q1
  replace q2 := (hcE0.cell (p := ⟨w.heap.size, 2, none⟩) (by show w.heap.size < _; omega)).trans q2
  replace q3 := (hcE0.cell (p := ⟨w.heap.size, 3, none⟩) (by show w.heap.size < _; omega)).trans q3
  replace q4 := (hcE0.cell (p := ⟨w.heap.size, 4, none⟩) (by show w.heap.size < _; omega)).trans q4
  replace q5 := (hcE0.cell (p := ⟨w.heap.size, 5, none⟩) (by show w.heap.size < _; omega)).trans q5
  replace q6 := (hcE0.cell (p := ⟨w.heap.size, 6, none⟩) (by show w.heap.size < _; omega)).trans q6
  replace q7 := (hcE0.cell (p := ⟨w.heap.size, 7, none⟩) (by show w.heap.size < _; omega)).trans q7
  replace q8 := (hcE0.cell (p := ⟨w.heap.size, 8, none⟩) (by show w.heap.size < _; omega)).trans q8
  replace q9 := (hcE0.cell (p := ⟨w.heap.size, 9, none⟩) (by show w.heap.size < _; omega)).trans q9
  have hBWE : Below w.heap.size w E1 := hbE0.trans (hcE0.mono hbE0.size)
  clear hcE0 hbE0 hbE1
  clear hsE0
  go_wp2_with fail
  obtain ⟨L, hL⟩ : ∃ L, L = E1.heap.size := ⟨_, rfl⟩
  obtain ⟨wA, hwA⟩ : ∃ X, X = E1.alloc (.cells (madeCells Try.zeroCells141 ((n + 1) * 1891)) 141) := ⟨_, rfl⟩
  have hsA : wA.heap.size = L + 1 := by rw [hwA, hL]; simp
  have wlA : Wrt wA L ((n + 1) * 1891) := by rw [hwA, hL]; exact made_wrt _ _ _
  have zlA : ∀ o, o < (n + 1) * 1891 → wA.cell? ⟨L, o, none⟩ = some (.int .i64 0) := fun o ho => by rw [hwA, hL]; exact made_cell _ _ _ o ho
  have hbA : Below E1.heap.size E1 wA := by rw [hwA]; exact (Below.refl _ _).alloc (Nat.le_refl _) _
  obtain ⟨wB, hwB⟩ : ∃ X, X = wA.alloc (.cells (madeCells Try.zeroCells141 (n * 1891)) 141) := ⟨_, rfl⟩
  have hsB : wB.heap.size = L + 1 + 1 := by rw [hwB]; simp; omega
  have wpB : Wrt wB (L + 1) (n * 1891) := by rw [hwB, ← hsA]; exact made_wrt _ _ _
  have zpB : ∀ o, o < n * 1891 → wB.cell? ⟨L + 1, o, none⟩ = some (.int .i64 0) := fun o ho => by rw [hwB, ← hsA]; exact made_cell _ _ _ o ho
  have hbB : Below wA.heap.size wA wB := by rw [hwB]; exact (Below.refl _ _).alloc (Nat.le_refl _) _
  have hbAB := hbA.trans (hbB.mono hbA.size)
  rw [← hwA, ← hwB]
  clear hwA hwB hmL hmP
  have wlB := wlA.same (hbB.block L (by omega))
  have zlB : ∀ o, o < (n + 1) * 1891 → wB.cell? ⟨L, o, none⟩ = some (.int .i64 0) := fun o ho => (hbB.cell (p := ⟨L, o, none⟩) (by show L < _; omega)).trans (zlA o ho)
  rw [hsE1] at hL
  subst hL
  replace q0 := (hbAB.cell (p := ⟨w.heap.size, 0, none⟩) (by show w.heap.size < _; omega)).trans q0
  replace q1 := (hbAB.cell (p := ⟨w.heap.size, 1, none⟩) (by show w.heap.size < _; omega)).trans q1
  replace q2 := (hbAB.cell (p := ⟨w.heap.size, 2, none⟩) (by show w.heap.size < _; omega)).trans q2
  replace q3 := (hbAB.cell (p := ⟨w.heap.size, 3, none⟩) (by show w.heap.size < _; omega)).trans q3
  replace q4 := (hbAB.cell (p := ⟨w.heap.size, 4, none⟩) (by show w.heap.size < _; omega)).trans q4
  replace q5 := (hbAB.cell (p := ⟨w.heap.size, 5, none⟩) (by show w.heap.size < _; omega)).trans q5
  replace q6 := (hbAB.cell (p := ⟨w.heap.size, 6, none⟩) (by show w.heap.size < _; omega)).trans q6
  replace q7 := (hbAB.cell (p := ⟨w.heap.size, 7, none⟩) (by show w.heap.size < _; omega)).trans q7
  replace q8 := (hbAB.cell (p := ⟨w.heap.size, 8, none⟩) (by show w.heap.size < _; omega)).trans q8
  replace q9 := (hbAB.cell (p := ⟨w.heap.size, 9, none⟩) (by show w.heap.size < _; omega)).trans q9
  replace s0 := (hbAB.cell (p := ⟨w.heap.size + 1, 0, none⟩) (by show w.heap.size + 1 < _; omega)).trans s0
  replace s1 := (hbAB.cell (p := ⟨w.heap.size + 1, 1, none⟩) (by show w.heap.size + 1 < _; omega)).trans s1
  replace v0 := (hbAB.frozen (p := ⟨w.heap.size + 1, 0, none⟩) (by show w.heap.size + 1 < _; omega)).trans v0
  replace v1 := (hbAB.frozen (p := ⟨w.heap.size + 1, 1, none⟩) (by show w.heap.size + 1 < _; omega)).trans v1
  have hBB : Below w.heap.size w wB := hBWE.trans (hbAB.mono hBWE.size)
  have HS1 : Aside (St1 r most ts n (w.heap.size + 1 + 1) (w.heap.size + 1 + 1 + 1) n wB) := by
    refine ⟨wlB, wpB, fun j h1 h2 c i hs => ?_, fun j h1 h2 => by omega, fun o ho => ⟨zlB o (by omega), zpB o ho⟩⟩
    obtain rfl : j = n := by omega
    obtain ⟨a1, a2, a3, a4⟩ := hs
    have := hr.u2; have := hr.m2
    simp only at a1 a2 a3 a4
    rw [zlB _ (by omega), List.drop_eq_nil_of_le (by have := hn.out; omega)]
    rfl
  exact rext_t3 r hr c i most lo A n cc ts w HX hn hl HW hst w.heap.size (w.heap.size + 1) (w.heap.size + 1 + 1) (w.heap.size + 1 + 1 + 1) (Nat.le_refl _) (by omega) (by omega) (by omega) wB hBB (by omega) q0 q1 q2 q3 q4 q5 q6 q7 q8 q9 s0 s1 v0 v1 HS1

end Go.Proofs.Ytlkecgjpmnganaa
