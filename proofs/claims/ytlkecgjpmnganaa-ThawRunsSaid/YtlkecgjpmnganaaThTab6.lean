/- Contracts: the reference's Through. -/
import Derived.Test.YtlkecgjpmnganaaThTab5
set_option linter.unusedSimpArgs false
set_option linter.unusedVariables false
namespace Go.Proofs.Ytlkecgjpmnganaa
open Go.RowKit Go.Shelf

theorem mayS_any : mayS 0 = fun _ => true := by funext b; cases b <;> rfl

set_option maxRecDepth 100000 in
theorem step_store_tab {ops : Array Oper} {o : Oper} {a : Act} {w : World} {K : Act → World → Prop} {Q : Exit → Act → World → Prop} {E : Prop} (hgd : o.guard = none) (x y : Operand) (ho : o.op = .store 63 x y)
    (b : Nat) (T : Tb) (hx : a.eval x = .pointer (some ⟨b, 0, none⟩)) (hy : a.eval y = .agg (tabA T)) (T0 : Tb) (hT : Tab w b T0) (hw : Wri w b) (h : K (a.put o.dst undef) (putT w b T)) :
    if Region.wanted o (yielded ops a.tmps) = true then Oper.wp Try.prog o a w K Q else E := by
  have hwd : Region.wanted o (yielded ops a.tmps) = true := by simp [Region.wanted, hgd]
  rw [if_pos hwd]
  exact wp_store_mid _ x y ho b 0 (tabA T) hx hy (by rw [tabA_size]; exact hT.there hw) (by rw [tabA_size]; kernel_rfl) (all_oneCell_toArray (tabL_one T)) h

set_option maxRecDepth 100000 in
theorem wpStill_load_tab {ops : Array Oper} {w : World} {Q : Act → Prop} {o : Oper} {rest : List Oper} {a : Act} (hgd : o.guard = none) (x : Operand) (ho : o.op = .load 63 x)
    (b : Nat) (hx : a.eval x = .pointer (some ⟨b, 0, none⟩)) (T : Tb) (hT : Tab w b T) (h : wpStill Try.prog ops w Q rest (a.put o.dst (.agg (tabA T)))) : wpStill Try.prog ops w Q (o :: rest) a := by
  refine wpStill_step fun K hK => ?_
  rw [if_pos (by simp [Region.wanted, hgd])]
  have he : (execOp a.eval o).run Try.prog w = .ok (.value (.agg (tabA T))) w := by
    unfold execOp
    simp only [ho, hx, Instr.loadAt, Instr.sureAddr, Sem.run_bind, Sem.run_pure, Result.andThen_ok, run_loadVar_mid w b 0 _ (tabL T) _ hT.range Try.underlying63 rfl (show (Try.prog.info? 63).map (·.size) = some (tabL T).length by rw [tabL_len]; kernel_rfl)]
    rfl
  show o.stillUpon _ a w K _
  rw [he, Oper.stillUpon_value]
  exact hK _ h


set_option maxRecDepth 100000 in
set_option maxHeartbeats 1000000 in
theorem refThrough_any (r : TR) (hr : TROk r) (F : Fl) (C : Cs) (lo : Nat) (A : Option Addr) (n cc : Nat) (ts : List R) (B : Int) (w : World) (hF : Rep F C) (hin : CIn r C) (hbd : ∀ s n, C s n → 0 ≤ n ∧ n ≤ B)
    (hx : Ranges w lo A ts) (hn : Aside (ts.length = n)) (hl : B + n ≤ 80000) (hl2 : n ≤ 1000) (hok : Aside (ts.all okT = true)) :
    Calls Try.prog 32 #[rV r, tabV F, .slice A n cc] w (RHourPost w (thruC r (ts.map pr) C)) := by
  have hH := fun F C tl th W h1 h2 h3 h4 h5 h6 => refHour_any r hr F C tl th 0 W h1 h2 h3 h4 h5 h6
  rw [mayS_any] at hH
  have hrv : rV r = .agg #[.int .i64 r.frost, .int .i64 r.thaw, .int .i64 r.gain, .int .i64 r.full, .int .i64 r.ice, .int .i64 r.most, .int .i64 r.melt, .int .i64 r.rlow, .int .i64 r.rhigh, .int .i64 r.pull] := rfl
  rw [hrv] at hH ⊢
  unfold tabV at hH ⊢
  have HC : Aside (Rep F C) := hF
  have HI : Aside (∀ k, CIn r (thruC r ((ts.take k).map pr) C)) := fun k => thruC_in hr _ hin
  have HB : Aside (∀ k, k ≤ n → ∀ s m, thruC r ((ts.take k).map pr) C s m → 0 ≤ m ∧ m ≤ 90000) := fun k hk s m h => by
    have := thruC_bd r _ _ B hbd s m h
    have h2 : ((ts.take k).map pr).length ≤ k := by simp; omega
    omega
  have HX : Aside (Ranges w lo A ts) := hx
  have HW : Aside (∀ k, k < n → -600 ≤ (ts[k]?.getD R.d).lo ∧ (ts[k]?.getD R.d).lo ≤ (ts[k]?.getD R.d).hi ∧ (ts[k]?.getD R.d).hi ≤ 600) := fun k hk => by
    have hk2 : k < ts.length := by have := hn.out; omega
    have h1 := List.all_eq_true.1 hok.out ts[k] (List.getElem_mem hk2)
    rw [List.getElem?_eq_getElem hk2, Option.getD_some]
    simp [okT, btw] at h1
    omega
  clear hF hin hbd hx hok
  obtain ⟨T, hT⟩ : ∃ T, rawF F = T := ⟨_, rfl⟩
  rw [hT]
  go_enter Try.func32, Try.ntmps32
  go_wp2_with fail
  obtain ⟨A0, hA0⟩ : ∃ X, X = w.alloc (.cells #[.int .i64 r.frost, .int .i64 r.thaw, .int .i64 r.gain, .int .i64 r.full, .int .i64 r.ice, .int .i64 r.most, .int .i64 r.melt, .int .i64 r.rlow, .int .i64 r.rhigh, .int .i64 r.pull] 25) := ⟨_, rfl⟩
  have hs0 : A0.heap.size = w.heap.size + 1 := by rw [hA0]; simp
  have hb0 : Below w.heap.size w A0 := by rw [hA0]; exact (Below.refl _ _).alloc (Nat.le_refl _) _
  have q0 : A0.cell? ⟨w.heap.size, 0, none⟩ = some (.int .i64 r.frost) := by rw [hA0]; simp [go_sem]
  have q1 : A0.cell? ⟨w.heap.size, 1, none⟩ = some (.int .i64 r.thaw) := by rw [hA0]; simp [go_sem]
  have q2 : A0.cell? ⟨w.heap.size, 2, none⟩ = some (.int .i64 r.gain) := by rw [hA0]; simp [go_sem]
  have q3 : A0.cell? ⟨w.heap.size, 3, none⟩ = some (.int .i64 r.full) := by rw [hA0]; simp [go_sem]
  have q4 : A0.cell? ⟨w.heap.size, 4, none⟩ = some (.int .i64 r.ice) := by rw [hA0]; simp [go_sem]
  have q5 : A0.cell? ⟨w.heap.size, 5, none⟩ = some (.int .i64 r.most) := by rw [hA0]; simp [go_sem]
  have q6 : A0.cell? ⟨w.heap.size, 6, none⟩ = some (.int .i64 r.melt) := by rw [hA0]; simp [go_sem]
  have q7 : A0.cell? ⟨w.heap.size, 7, none⟩ = some (.int .i64 r.rlow) := by rw [hA0]; simp [go_sem]
  have q8 : A0.cell? ⟨w.heap.size, 8, none⟩ = some (.int .i64 r.rhigh) := by rw [hA0]; simp [go_sem]
  have q9 : A0.cell? ⟨w.heap.size, 9, none⟩ = some (.int .i64 r.pull) := by rw [hA0]; simp [go_sem]
  rw [← hA0]
  clear hA0
  obtain ⟨A1, hA1⟩ : ∃ X, X = A0.alloc (.cells (tabA T) 63) := ⟨_, rfl⟩
  have hs1 : A1.heap.size = w.heap.size + 1 + 1 := by rw [hA1]; simp; omega
  have hb1 : Below A0.heap.size A0 A1 := by rw [hA1]; exact (Below.refl _ _).alloc (Nat.le_refl _) _
  have hT1 : Tab A1 (w.heap.size + 1) T := by rw [hA1, ← hs0]; exact Tab.new _ _ _ _
  have hW1 : Wri A1 (w.heap.size + 1) := by rw [hA1, ← hs0]; exact Wri.new _ _ _
  rw [← hA1]
  clear hA1
  obtain ⟨A2, hA2⟩ : ∃ X, X = A1.alloc (.cells Try.zeroCells63 63) := ⟨_, rfl⟩
  have hs2 : A2.heap.size = w.heap.size + 1 + 1 + 1 := by rw [hA2]; simp; omega
  have hb2 : Below A1.heap.size A1 A2 := by rw [hA2]; exact (Below.refl _ _).alloc (Nat.le_refl _) _
  have hT3 : Tab A2 (w.heap.size + 1 + 1) (fun _ => (0, 0)) := by rw [hA2]; exact Tab.zero _ _ (by omega) _
  have hW3 : Wri A2 (w.heap.size + 1 + 1) := by rw [hA2, ← hs1]; exact Wri.new _ _ _
  rw [← hA2]
  clear hA2
  have c1 : Below A1.heap.size A1 A2 := hb2
  have c0 : Below A0.heap.size A0 A2 := hb1.trans (c1.mono hb1.size)
  have hBW : Below w.heap.size w A2 := hb0.trans (c0.mono hb0.size)
  replace hT1 := hT1.below c1 (by omega)
  replace hW1 := hW1.below c1 (by omega)
  replace q0 := (c0.cell (p := ⟨w.heap.size, 0, none⟩) (by show w.heap.size < _; omega)).trans q0
  replace q1 := (c0.cell (p := ⟨w.heap.size, 1, none⟩) (by show w.heap.size < _; omega)).trans q1
  replace q2 := (c0.cell (p := ⟨w.heap.size, 2, none⟩) (by show w.heap.size < _; omega)).trans q2
  replace q3 := (c0.cell (p := ⟨w.heap.size, 3, none⟩) (by show w.heap.size < _; omega)).trans q3
  replace q4 := (c0.cell (p := ⟨w.heap.size, 4, none⟩) (by show w.heap.size < _; omega)).trans q4
  replace q5 := (c0.cell (p := ⟨w.heap.size, 5, none⟩) (by show w.heap.size < _; omega)).trans q5
  replace q6 := (c0.cell (p := ⟨w.heap.size, 6, none⟩) (by show w.heap.size < _; omega)).trans q6
  replace q7 := (c0.cell (p := ⟨w.heap.size, 7, none⟩) (by show w.heap.size < _; omega)).trans q7
  replace q8 := (c0.cell (p := ⟨w.heap.size, 8, none⟩) (by show w.heap.size < _; omega)).trans q8
  replace q9 := (c0.cell (p := ⟨w.heap.size, 9, none⟩) (by show w.heap.size < _; omega)).trans q9
  obtain ⟨b1, hb1'⟩ : ∃ b1, b1 = w.heap.size + 1 := ⟨_, rfl⟩
  obtain ⟨b2, hb2'⟩ : ∃ b2, b2 = w.heap.size + 1 + 1 := ⟨_, rfl⟩
  rw [← hb2'] at hT3 hW3 ⊢
  rw [← hb1'] at hT1 hW1 ⊢
  have o1 : w.heap.size < b1 := by omega
  have o2 : b1 < b2 := by omega
  have o3 : b2 < A2.heap.size := by omega
  clear hb1' hb2' c0 c1 hb0 hb1 hb2 hs0 hs1 hs2
  go_loopg [7] (n) (fun gg i wr => ∃ k : Nat, k ≤ n ∧ n - k ≤ gg ∧ i = .int .i64 k ∧ Aside (A2.grownBy wr (some b1)) ∧ Aside (Wri wr b1) ∧ ∃ G, Aside (Tab wr b1 (rawF G)) ∧ Aside (Rep G (thruC r ((ts.take k).map pr) C)))
  case atStart => exact ⟨0, Nat.zero_le _, Nat.le_refl _, rfl, grown_refl _ _, hW1, F, by rw [hT]; exact hT1, HC⟩
  case round =>
    clear hT1 hW1
    obtain ⟨k, hk, hg, rfl, hgw, hwr, G, hGT, hRG⟩ := hrel
    have hgz := hgw.out.size
    by_cases hlt : k < n
    · have hBw : Below w.heap.size w wr := hBW.grown hgw.out hBW.size (fun k e => by cases e; omega)
      obtain ⟨bb, oo, hA, _, hlb, hcs⟩ := HX.out (by have := hn.out; omega)
      subst hA
      have e0 := (hBw.cell (p := ⟨bb, oo + k * 2 + 0, none⟩) hlb).trans (hcs k 0 (by have := hn.out; omega) (by omega))
      have e1 := (hBw.cell (p := ⟨bb, oo + k * 2 + 1, none⟩) hlb).trans (hcs k 1 (by have := hn.out; omega) (by omega))
      have hsn : (ts.take (k + 1)).map pr = (ts.take k).map pr ++ [pr (ts[k]?.getD R.d)] := by
        have hk2 : k < ts.length := by have := hn.out; omega
        rw [List.take_succ_eq_append_getElem hk2, List.map_append, List.getElem?_eq_getElem hk2]; rfl
      have hwk := HW.out k hlt
      generalize ts[k]?.getD R.d = t at e0 e1 hsn hwk
      obtain ⟨tl, th⟩ := t
      simp only [R.cell, Nat.add_zero, if_true, Nat.one_ne_zero, if_false] at e0 e1 hwk
      have Hsn := Lib.hid hsn
      clear hsn hcs
      have hltz : (k : Int) < (n : Int) := by omega
      have hi0 : (0 : Int) ≤ (k : Int) := Int.natCast_nonneg _
      have hlbr : bb < wr.heap.size := by have := hBw.size; omega
      have hnb : bb ≠ b1 := by omega
      have a0 := gcell hgw.out q0 (by omega)
      have a1 := gcell hgw.out q1 (by omega)
      have a2 := gcell hgw.out q2 (by omega)
      have a3 := gcell hgw.out q3 (by omega)
      have a4 := gcell hgw.out q4 (by omega)
      have a5 := gcell hgw.out q5 (by omega)
      have a6 := gcell hgw.out q6 (by omega)
      have a7 := gcell hgw.out q7 (by omega)
      have a8 := gcell hgw.out q8 (by omega)
      have a9 := gcell hgw.out q9 (by omega)
      go_wp2_with fail
      have hTd : Tab wr.drew b1 (rawF G) := hGT.out.below (Below.drew (Below.refl wr.heap.size _)) (by omega)
      refine wp_region_still_tail 6 (by kernel_rfl) (by kernel_rfl) ?_
      simp only [List.take_succ_cons, List.take_zero, List.drop_succ_cons, List.drop_zero]
      still_step
      refine wpStill_load_tab rfl _ rfl b1 rfl (rawF G) hTd ?_
      still_step
      still_step
      still_step
      still_step
      refine wpStill_nil ?_
      change wpList _ _ _ _ _ wr.drew
      go_wp2_with fail
      refine (hH G _ tl th _ hRG.out (HI.out k) (HB.out k hk) hwk.2.1 hwk.1 hwk.2.2).mono ?_
      rintro e w9 ⟨G9, rfl, hR9, hb9'⟩
      have hb9 := below_undrew hb9'
      have T9 := hGT.out.below hb9 (by omega)
      have V9 := hwr.out.below hb9 (by omega)
      have hst := store_tab T9 V9 (rawF G9)
      unfold tabV
      go_wp2
      go_roundg (n - (k + 1))
      case measure => omega
      case rel => exact ⟨k + 1, by omega, by omega, by go_num, grown_tr (grown_below hgw.out (hb9.mono hgz)) (putT_grown _ _ _) (fun r e => Or.inr (by cases e; rfl)), putT_wri V9 _, G9, putT_tab T9 V9 _, by rw [Hsn.out, thruC_snoc]; exact hR9⟩
    · have hltz : ¬ (k : Int) < (n : Int) := by omega
      obtain rfl : k = n := by omega
      have T3 := hT3.kept hgw.out (by omega)
      have V3 := hW3.kept hgw.out (by omega) (by omega)
      have hR9 : Rep G (thruC r (ts.map pr) C) := by
        have := hRG.out
        rwa [List.take_of_length_le (by have := hn.out; omega)] at this
      have HR9 := Lib.hid hR9
      have hld2 := load_tab (putT_tab T3 V3 (rawF G))
      have hBB : Below w.heap.size w (putT wr b2 (rawF G)) := (hBW.grown hgw.out hBW.size (fun k e => by cases e; omega)).grown (putT_grown wr _ _) (by have := hBW.size; omega) (fun k e => by cases e; omega)
      go_wp2_with (first | refine wpList_load_tab rfl _ rfl _ rfl (rawF G) hGT.out ?_ | refine wpList_store_tab rfl _ _ rfl _ (rawF G) rfl rfl _ T3 V3 ?_)
      refine bodyPost_ret (v := .agg (tabA (rawF G))) ?_ rfl ⟨G, rfl, HR9.out, hBB⟩
      simp [results, Try.results32, asAddr, Act.put, hld2]

end Go.Proofs.Ytlkecgjpmnganaa
