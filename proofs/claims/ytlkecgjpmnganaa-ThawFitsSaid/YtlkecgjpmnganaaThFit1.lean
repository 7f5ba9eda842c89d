/- Contracts: the reference's Fits; what it finds. -/
import Derived.Test.YtlkecgjpmnganaaThTab6
import Derived.Test.YtlkecgjpmnganaaThFirst
set_option linter.unusedSimpArgs false
set_option linter.unusedVariables false
namespace Go.Proofs.Ytlkecgjpmnganaa
open Go.RowKit Go.Shelf

open Classical in
/-- the first hour at which nothing that was seen can be true, and the set behind all hours -/
noncomputable def fitA (r : TR) : List ((Int × Int) × Int) → Cs → Int → Int × Cs
  | [], C, _ => (-1, C)
  | x :: l, C, k => if (∃ n, anyC (hourC r x.1.1 x.1.2 (mayS x.2) C) n) then fitA r l (hourC r x.1.1 x.1.2 (mayS x.2) C) (k + 1) else (k, fun _ _ => False)
theorem fitA_some (r : TR) (x : (Int × Int) × Int) (l : List ((Int × Int) × Int)) (C : Cs) (k : Int) (h : ∃ n, anyC (hourC r x.1.1 x.1.2 (mayS x.2) C) n) :
    fitA r (x :: l) C k = fitA r l (hourC r x.1.1 x.1.2 (mayS x.2) C) (k + 1) := by
  conv => lhs; unfold fitA
  exact if_pos h
theorem fitA_none (r : TR) (x : (Int × Int) × Int) (l : List ((Int × Int) × Int)) (C : Cs) (k : Int) (h : ¬ ∃ n, anyC (hourC r x.1.1 x.1.2 (mayS x.2) C) n) :
    fitA r (x :: l) C k = (k, fun _ _ => False) := by
  conv => lhs; unfold fitA
  exact if_neg h
/-- weather with what was seen -/
def seenZ (ts : List R) (ls : List Int) : List ((Int × Int) × Int) := (ts.map pr).zip ls
theorem seenZ_drop (ts : List R) (ls : List Int) (k : Nat) (h1 : k < ts.length) (h2 : k < ls.length) : (seenZ ts ls).drop k = (pr (ts[k]?.getD R.d), ls[k]?.getD 0) :: (seenZ ts ls).drop (k + 1) := by
  have hl : k < (seenZ ts ls).length := by unfold seenZ; simp; omega
  rw [List.drop_eq_getElem_cons hl]
  congr 1
  simp only [seenZ, List.getElem_zip, List.getElem_map, List.getElem?_eq_getElem h1, List.getElem?_eq_getElem h2, Option.getD_some]

/-- behind the reference's Fits -/
def RFitsPost (w : World) (x : Int × Cs) (e : Ending) (w' : World) : Prop := ∃ o, e = .returned (.tuple #[.int .i64 x.1, rgO o]) ∧ Rep1 o (anyC x.2) ∧ Below w.heap.size w w'

set_option maxRecDepth 100000 in
set_option maxHeartbeats 1000000 in
theorem refFits_any (r : TR) (hr : TROk r) (c i : Int) (hst : stIn r (c, i)) (lo : Nat) (A : Option Addr) (n cc : Nat) (ts : List R) (lo2 : Nat) (B2 : Option Addr) (c2 : Nat) (ls : List Int) (w : World)
    (hx : Ranges w lo A ts) (hn : Aside (ts.length = n)) (hy : Ints w lo2 B2 ls) (hn2 : Aside (ls.length = n)) (hl2 : n ≤ 1000) (hok : Aside (ts.all okT = true)) :
    Calls Try.prog 41 #[rV r, .agg #[.int .i64 c, .int .i64 i], .slice A n cc, (.slice B2 n c2)] w (RFitsPost w (fitA r (seenZ ts ls) (oneC (c, i)) 0)) := by
  obtain ⟨c, i, hc, hi, e⟩ := in_nat hr hst
  obtain ⟨rfl, rfl⟩ := Prod.mk.inj e
  have hin0 := oneC_in hst
  have hH := fun F C tl th s W h1 h2 h3 h4 h5 h6 => refHour_any r hr F C tl th s W h1 h2 h3 h4 h5 h6
  have hF := fun W => refFrom_any c i (by omega) (by omega) W
  have hA := fun F h W => refAll_any F h W
  have hrv : rV r = .agg #[.int .i64 r.frost, .int .i64 r.thaw, .int .i64 r.gain, .int .i64 r.full, .int .i64 r.ice, .int .i64 r.most, .int .i64 r.melt, .int .i64 r.rlow, .int .i64 r.rhigh, .int .i64 r.pull] := rfl
  rw [hrv] at hH ⊢
  unfold tabV at hH hF hA
  unfold sV at hF
  simp only at hF
  have HX : Aside (Ranges w lo A ts) := hx
  have HY : Aside (Ints w lo2 B2 ls) := hy
  have HW : Aside (∀ k, k < n → -600 ≤ (ts[k]?.getD R.d).lo ∧ (ts[k]?.getD R.d).lo ≤ (ts[k]?.getD R.d).hi ∧ (ts[k]?.getD R.d).hi ≤ 600) := fun k hk => by
    have hk2 : k < ts.length := by have := hn.out; omega
    have h1 := List.all_eq_true.1 hok.out ts[k] (List.getElem_mem hk2)
    rw [List.getElem?_eq_getElem hk2, Option.getD_some]
    simp [okT, btw] at h1
    omega
  obtain ⟨⟨fa, fC⟩, hfr⟩ : ∃ x, fitA r (seenZ ts ls) (oneC ((c : Int), (i : Int))) 0 = x := ⟨_, rfl⟩
  rw [hfr]
  have HFR := Lib.hid hfr
  clear hfr hx hy hok e hrv
  go_enter Try.func41, Try.ntmps41
  go_wp2_with fail
  obtain ⟨E0, hNE0⟩ : ∃ X, X = w.alloc (.cells #[.int .i64 r.frost, .int .i64 r.thaw, .int .i64 r.gain, .int .i64 r.full, .int .i64 r.ice, .int .i64 r.most, .int .i64 r.melt, .int .i64 r.rlow, .int .i64 r.rhigh, .int .i64 r.pull] 25) := ⟨_, rfl⟩
  have hsE0 : E0.heap.size = w.heap.size + 1 := by rw [hNE0]; simp
  have hbE0 : Below w.heap.size w E0 := by rw [hNE0]; exact (Below.refl _ _).alloc (Nat.le_refl _) _
  have q0 : E0.cell? ⟨w.heap.size, 0, none⟩ = some (.int .i64 r.frost) := by rw [hNE0]; simp [go_sem]
  have q1 : E0.cell? ⟨w.heap.size, 1, none⟩ = some (.int .i64 r.thaw) := by rw [hNE0]; simp [go_sem]
  have q2 : E0.cell? ⟨w.heap.size, 2, none⟩ = some (.int .i64 r.gain) := by rw [hNE0]; simp [go_sem]
  have q3 : E0.cell? ⟨w.heap.size, 3, none⟩ = some (.int .i64 r.full) := by rw [hNE0]; simp [go_sem]
  have q4 : E0.cell? ⟨w.heap.size, 4, none⟩ = some (.int .i64 r.ice) := by rw [hNE0]; simp [go_sem]
  have q5 : E0.cell? ⟨w.heap.size, 5, none⟩ = some (.int .i64 r.most) := by rw [hNE0]; simp [go_sem]
  have q6 : E0.cell? ⟨w.heap.size, 6, none⟩ = some (.int .i64 r.melt) := by rw [hNE0]; simp [go_sem]
  have q7 : E0.cell? ⟨w.heap.size, 7, none⟩ = some (.int .i64 r.rlow) := by rw [hNE0]; simp [go_sem]
  have q8 : E0.cell? ⟨w.heap.size, 8, none⟩ = some (.int .i64 r.rhigh) := by rw [hNE0]; simp [go_sem]
  have q9 : E0.cell? ⟨w.heap.size, 9, none⟩ = some (.int .i64 r.pull) := by rw [hNE0]; simp [go_sem]
  rw [← hNE0]
  clear hNE0
  obtain ⟨E1, hNE1⟩ : ∃ X, X = E0.alloc (.cells #[.int .i64 (c : Int), .int .i64 (i : Int)] 27) := ⟨_, rfl⟩
  have hsE1 : E1.heap.size = w.heap.size + 1 + 1 := by rw [hNE1]; simp; omega
  have hbE1 : Below E0.heap.size E0 E1 := by rw [hNE1]; exact (Below.refl _ _).alloc (Nat.le_refl _) _
  have s0 : E1.cell? ⟨w.heap.size + 1, 0, none⟩ = some (.int .i64 (c : Int)) := by rw [hNE1, ← hsE0]; simp [go_sem]
  have s1 : E1.cell? ⟨w.heap.size + 1, 1, none⟩ = some (.int .i64 (i : Int)) := by rw [hNE1, ← hsE0]; simp [go_sem]
  rw [← hNE1]
  clear hNE1
  obtain ⟨E2, hNE2⟩ : ∃ X, X = E1.alloc (.cells #[.int .i64 0, .int .i64 0] 23) := ⟨_, rfl⟩
  have hsE2 : E2.heap.size = w.heap.size + 1 + 1 + 1 := by rw [hNE2]; simp; omega
  have hbE2 : Below E1.heap.size E1 E2 := by rw [hNE2]; exact (Below.refl _ _).alloc (Nat.le_refl _) _
  have u0 : E2.cell? ⟨w.heap.size + 1 + 1, 0, none⟩ = some (.int .i64 0) := by rw [hNE2, ← hsE1]; simp [go_sem]
  have u1 : E2.cell? ⟨w.heap.size + 1 + 1, 1, none⟩ = some (.int .i64 0) := by rw [hNE2, ← hsE1]; simp [go_sem]
  have v0 : E2.frozen? ⟨w.heap.size + 1 + 1, 0, none⟩ = false := by rw [hNE2, ← hsE1]; simp [go_sem]
  have v1 : E2.frozen? ⟨w.heap.size + 1 + 1, 1, none⟩ = false := by rw [hNE2, ← hsE1]; simp [go_sem]
  rw [← hNE2]
  clear hNE2
  have hcE1 : Below E1.heap.size E1 E2 := hbE2
  replace s0 := (hcE1.cell (p := ⟨w.heap.size + 1, 0, none⟩) (by show w.heap.size + 1 < _; omega)).trans s0
  replace s1 := (hcE1.cell (p := ⟨w.heap.size + 1, 1, none⟩) (by show w.heap.size + 1 < _; omega)).trans s1
  have hcE0 : Below E0.heap.size E0 E2 := hbE1.trans (hcE1.mono hbE1.size)
  replace q0 := (hcE0.cell (p := ⟨w.heap.size, 0, none⟩) (by show w.heap.size < _; omega)).trans q0
  replace q1 := (hcE0.cell (p := ⟨w.heap.size, 1, none⟩) (by show w.heap.size < _; omega)).trans q1
  replace q2 := (hcE0.cell (p := ⟨w.heap.size, 2, none⟩) (by show w.heap.size < _; omega)).trans q2
  replace q3 := (hcE0.cell (p := ⟨w.heap.size, 3, none⟩) (by show w.heap.size < _; omega)).trans q3
  replace q4 := (hcE0.cell (p := ⟨w.heap.size, 4, none⟩) (by show w.heap.size < _; omega)).trans q4
  replace q5 := (hcE0.cell (p := ⟨w.heap.size, 5, none⟩) (by show w.heap.size < _; omega)).trans q5
  replace q6 := (hcE0.cell (p := ⟨w.heap.size, 6, none⟩) (by show w.heap.size < _; omega)).trans q6
  replace q7 := (hcE0.cell (p := ⟨w.heap.size, 7, none⟩) (by show w.heap.size < _; omega)).trans q7
  replace q8 := (hcE0.cell (p := ⟨w.heap.size, 8, none⟩) (by show w.heap.size < _; omega)).trans q8
  replace q9 := (hcE0.cell (p := ⟨w.heap.size, 9, none⟩) (by show w.heap.size < _; omega)).trans q9
  have hBWE : Below w.heap.size w E2 := hbE0.trans (hcE0.mono hbE0.size)
  clear hcE0 hcE1 hbE0 hbE1 hbE2
  clear hsE0 hsE1
  obtain ⟨F0, hF0⟩ : ∃ F, setF (fun _ => none) ((c : Int), (i : Int)) (some (0, 0)) = F := ⟨_, rfl⟩
  have hR0 : Rep F0 (oneC ((c : Int), (i : Int))) := by rw [← hF0]; exact one_rep _
  rw [hF0] at hF
  clear hF0
  refine (hF _).mono ?_
  rintro e w1 ⟨rfl, hb1⟩
  have hz1 := hb1.size
  replace q0 := (hb1.cell (p := ⟨w.heap.size, 0, none⟩) (by show w.heap.size < _; omega)).trans q0
  replace q1 := (hb1.cell (p := ⟨w.heap.size, 1, none⟩) (by show w.heap.size < _; omega)).trans q1
  replace q2 := (hb1.cell (p := ⟨w.heap.size, 2, none⟩) (by show w.heap.size < _; omega)).trans q2
  replace q3 := (hb1.cell (p := ⟨w.heap.size, 3, none⟩) (by show w.heap.size < _; omega)).trans q3
  replace q4 := (hb1.cell (p := ⟨w.heap.size, 4, none⟩) (by show w.heap.size < _; omega)).trans q4
  replace q5 := (hb1.cell (p := ⟨w.heap.size, 5, none⟩) (by show w.heap.size < _; omega)).trans q5
  replace q6 := (hb1.cell (p := ⟨w.heap.size, 6, none⟩) (by show w.heap.size < _; omega)).trans q6
  replace q7 := (hb1.cell (p := ⟨w.heap.size, 7, none⟩) (by show w.heap.size < _; omega)).trans q7
  replace q8 := (hb1.cell (p := ⟨w.heap.size, 8, none⟩) (by show w.heap.size < _; omega)).trans q8
  replace q9 := (hb1.cell (p := ⟨w.heap.size, 9, none⟩) (by show w.heap.size < _; omega)).trans q9
  replace u0 := (hb1.cell (p := ⟨w.heap.size + 1 + 1, 0, none⟩) (by show w.heap.size + 1 + 1 < _; omega)).trans u0
  replace u1 := (hb1.cell (p := ⟨w.heap.size + 1 + 1, 1, none⟩) (by show w.heap.size + 1 + 1 < _; omega)).trans u1
  replace v0 := (hb1.frozen (p := ⟨w.heap.size + 1 + 1, 0, none⟩) (by show w.heap.size + 1 + 1 < _; omega)).trans v0
  replace v1 := (hb1.frozen (p := ⟨w.heap.size + 1 + 1, 1, none⟩) (by show w.heap.size + 1 + 1 < _; omega)).trans v1
  have hz := fun W b => store_tab_new W b (fun _ => (0, 0)) (rawF F0)
  rw [← zero_tab] at hz
  go_upto_block 0 with fail
  clear hz
  have hBw1 : Below w.heap.size w w1 := hBWE.trans (hb1.mono hBWE.size)
  obtain ⟨p, hp⟩ : ∃ p, p = w1.heap.size := ⟨_, rfl⟩
  obtain ⟨W1, hW1⟩ : ∃ X, X = w1.alloc (.cells (tabA (rawF F0)) 63) := ⟨_, rfl⟩
  have hbW : Below w1.heap.size w1 W1 := by rw [hW1]; exact (Below.refl _ _).alloc (Nat.le_refl _) _
  have hT1 : Tab W1 p (rawF F0) := by rw [hW1, hp]; exact Tab.new _ _ _ _
  have hV1 : Wri W1 p := by rw [hW1, hp]; exact Wri.new _ _ _
  have hpW : p < W1.heap.size := by rw [hW1, hp]; simp
  rw [← hW1, ← hp]
  clear hW1
  replace q0 := (hbW.cell (p := ⟨w.heap.size, 0, none⟩) (by show w.heap.size < _; omega)).trans q0
  replace q1 := (hbW.cell (p := ⟨w.heap.size, 1, none⟩) (by show w.heap.size < _; omega)).trans q1
  replace q2 := (hbW.cell (p := ⟨w.heap.size, 2, none⟩) (by show w.heap.size < _; omega)).trans q2
  replace q3 := (hbW.cell (p := ⟨w.heap.size, 3, none⟩) (by show w.heap.size < _; omega)).trans q3
  replace q4 := (hbW.cell (p := ⟨w.heap.size, 4, none⟩) (by show w.heap.size < _; omega)).trans q4
  replace q5 := (hbW.cell (p := ⟨w.heap.size, 5, none⟩) (by show w.heap.size < _; omega)).trans q5
  replace q6 := (hbW.cell (p := ⟨w.heap.size, 6, none⟩) (by show w.heap.size < _; omega)).trans q6
  replace q7 := (hbW.cell (p := ⟨w.heap.size, 7, none⟩) (by show w.heap.size < _; omega)).trans q7
  replace q8 := (hbW.cell (p := ⟨w.heap.size, 8, none⟩) (by show w.heap.size < _; omega)).trans q8
  replace q9 := (hbW.cell (p := ⟨w.heap.size, 9, none⟩) (by show w.heap.size < _; omega)).trans q9
  replace u0 := (hbW.cell (p := ⟨w.heap.size + 1 + 1, 0, none⟩) (by show w.heap.size + 1 + 1 < _; omega)).trans u0
  replace u1 := (hbW.cell (p := ⟨w.heap.size + 1 + 1, 1, none⟩) (by show w.heap.size + 1 + 1 < _; omega)).trans u1
  replace v0 := (hbW.frozen (p := ⟨w.heap.size + 1 + 1, 0, none⟩) (by show w.heap.size + 1 + 1 < _; omega)).trans v0
  replace v1 := (hbW.frozen (p := ⟨w.heap.size + 1 + 1, 1, none⟩) (by show w.heap.size + 1 + 1 < _; omega)).trans v1
  have hBW1 : Below w.heap.size w W1 := hBw1.trans (hbW.mono hBw1.size)
  have o2 : w.heap.size + 1 + 1 < p := by omega
  clear hp hbW hb1 hz1 hsE2 hBWE hBw1
  go_wp2_with fail
  go_loopg [11] (n) (fun gg ii wr => ∃ k : Nat, k ≤ n ∧ n - k ≤ gg ∧ ii = .int .i64 k ∧ Aside (W1.grownBy wr (some p)) ∧ Aside (Wri wr p) ∧ ∃ G C', Aside (Tab wr p (rawF G)) ∧ Aside (Rep G C') ∧ Aside (CIn r C') ∧ Aside (∀ s m, C' s m → 0 ≤ m ∧ m ≤ (k : Int)) ∧ Aside (fitA r ((seenZ ts ls).drop k) C' k = (fa, fC)))
  case atStart => exact ⟨0, Nat.zero_le _, Nat.le_refl _, rfl, grown_refl _ _, hV1, F0, _, hT1, hR0, hin0, oneC_bd _, HFR.out⟩
  case round =>
    clear hT1 hV1 hR0 hin0
    obtain ⟨k, hk, hg, rfl, hgw, hwr, G, C', hGT, hRG, hCI, hCB, hFA⟩ := hrel
    have hgz := hgw.out.size
    have hBw : Below w.heap.size w wr := hBW1.grown hgw.out hBW1.size (fun k e => by cases e; omega)
    have a0 := gcell hgw.out q0 (by omega)
    have a1 := gcell hgw.out q1 (by omega)
    have a2 := gcell hgw.out q2 (by omega)
    have a3 := gcell hgw.out q3 (by omega)
    have a4 := gcell hgw.out q4 (by omega)
    have a5 := gcell hgw.out q5 (by omega)
    have a6 := gcell hgw.out q6 (by omega)
    have a7 := gcell hgw.out q7 (by omega)
    have a8 := gcell hgw.out q8 (by omega)
    have a9 := gcell hgw.out q9 (by omega)
    have u0' := gcell hgw.out u0 (by omega)
    have u1' := gcell hgw.out u1 (by omega)
    by_cases hlt : k < n
    · obtain ⟨bb, oo, hAA, _, hlb, hcs⟩ := HX.out (by have := hn.out; omega)
      subst hAA
      obtain ⟨bd, od, hBB, _, hld, hds⟩ := HY.out (by have := hn2.out; omega)
      subst hBB
      have e0 := (hBw.cell (p := ⟨bb, oo + k * 2 + 0, none⟩) hlb).trans (hcs k 0 (by have := hn.out; omega) (by omega))
      have e1 := (hBw.cell (p := ⟨bb, oo + k * 2 + 1, none⟩) hlb).trans (hcs k 1 (by have := hn.out; omega) (by omega))
      have f0 := (hBw.cell (p := ⟨bd, od + k, none⟩) hld).trans (hds k (by have := hn2.out; omega))
      have hdr := seenZ_drop ts ls k (by have := hn.out; omega) (by have := hn2.out; omega)
      have hwk := HW.out k hlt
      have hfa := hFA.out
      rw [hdr] at hfa
      generalize ts[k]?.getD R.d = t at e0 e1 hfa hwk
      generalize ls[k]?.getD 0 = sn at f0 hfa
      obtain ⟨tl, th⟩ := t
      simp only [R.cell, Nat.add_zero, if_true, Nat.one_ne_zero, if_false] at e0 e1 hwk
      simp only [pr] at hfa
      have Hfa := Lib.hid hfa
      clear hfa hdr hcs hds hFA
      have hltz : (k : Int) < (n : Int) := by omega
      have hi0 : (0 : Int) ≤ (k : Int) := Int.natCast_nonneg _
      have hTd : Tab wr.drew p (rawF G) := hGT.out.below (Below.drew (Below.refl wr.heap.size _)) (by omega)
      go_wp2_with fail
      refine wp_region_still_tail 10 (by kernel_rfl) (by kernel_rfl) ?_
      simp only [List.take_succ_cons, List.take_zero, List.drop_succ_cons, List.drop_zero]
      still_step
      refine wpStill_load_tab rfl _ rfl p rfl (rawF G) hTd ?_
      repeat still_step
      refine wpStill_nil ?_
      change wpList _ _ _ _ _ wr.drew
      go_wp2_with fail
      refine (hH G C' tl th sn _ hRG.out hCI.out (fun s m h => by have := hCB.out s m h; omega) hwk.2.1 hwk.1 hwk.2.2).mono ?_
      rintro e w9 ⟨G9, rfl, hR9, hb9'⟩
      have hb9 := below_undrew hb9'
      have hz9 := hb9.size
      have T9 := hGT.out.below hb9 (by omega)
      have V9 := hwr.out.below hb9 (by omega)
      have hst := store_tab T9 V9 (rawF G9)
      unfold tabV
      go_upto_region 6 with fail
      have gS : W1.grownBy (putT w9 p (rawF G9)) (some p) := grown_tr (grown_below hgw.out (hb9.mono hgz)) (putT_grown _ _ _) (fun r e => Or.inr (by cases e; rfl))
      have TS := putT_tab T9 V9 (rawF G9)
      have VS : Wri (putT w9 p (rawF G9)) p := putT_wri V9 _
      have zS := putT_size w9 p (rawF G9)
      generalize putT w9 p (rawF G9) = wS at gS TS VS zS ⊢
      clear hst T9 V9 hb9'
      have hCB9 : ∀ s m, hourC r tl th (mayS sn) C' s m → 0 ≤ m ∧ m ≤ ((k + 1 : Nat) : Int) := fun s m h => by have := hourC_bd hCB.out tl th (mayS sn) s m h; omega
      have hCI9 := hourC_in hr hCI.out tl th (mayS sn)
      have hall := all_any_rep hr hR9 hCI9
      have hAS := hA G9 (okO_rep hR9 (fun s m h => by have := hCB9 s m h; omega))
      generalize sumJ G9 1891 = o at hall hAS
      go_wp2_with (refine wpList_load_tab rfl _ rfl _ rfl (rawF G9) TS ?_)
      refine (hAS _).mono ?_
      rintro e wZ ⟨rfl, hbZ⟩
      have hzZ := hbZ.size
      have hbS := hBW1.grown gS hBW1.size (fun k e => by cases e; omega)
      have hBZ : Below w.heap.size w wZ := hbS.trans (hbZ.mono hbS.size)
      have gZ : W1.grownBy wZ (some p) := grown_below gS (hbZ.mono gS.size)
      rcases o with _ | ⟨x, y⟩
      · have hne := rep_none hall
        have Hne := Lib.hid hne
        clear hall hne
        simp only [rgO, Option.isSome]
        have U0 := gcell gZ u0 (by omega)
        have U1 := gcell gZ u1 (by omega)
        have v0 : wZ.frozen? ⟨w.heap.size + 1 + 1, 0, none⟩ = false := (World.frozen?_of_block (a := ⟨w.heap.size + 1 + 1, 0, none⟩) (gZ.block (w.heap.size + 1 + 1) (by omega) (fun e => by cases e; omega))).trans v0
        have v1 : wZ.frozen? ⟨w.heap.size + 1 + 1, 1, none⟩ = false := (World.frozen?_of_block (a := ⟨w.heap.size + 1 + 1, 1, none⟩) (gZ.block (w.heap.size + 1 + 1) (by omega) (fun e => by cases e; omega))).trans v1
        have hlZ : w.heap.size + 1 + 1 < wZ.heap.size := by omega
        have hfin := Hfa.out
        rw [fitA_none _ _ _ _ _ Hne.out] at hfin
        obtain ⟨rfl, rfl⟩ := Prod.mk.inj hfin
        clear hfin
        go_wp2
        refine bodyPost_ret (v := .tuple #[.int .i64 (k : Int), .agg #[.int .i64 0, .int .i64 0]]) (by simp [results, Try.results41, go_sem, U0, U1, v0, v1, hlZ]) rfl ⟨none, rfl, fun m => by rintro ⟨s, h⟩; exact h, ?_⟩
        exact (by (try show Below _ _ _); repeat (first | (with_reducible refine Below.setCell ?_ (by first | omega | (simp <;> omega)) _) | (with_reducible refine Below.alloc ?_ (by first | omega | (simp <;> omega)) _) | (with_reducible refine Below.drew ?_) | (with_reducible exact Below.refl _ _) | (with_reducible exact hBZ) | (with_reducible refine below_call ?_ (by assumption) (by first | omega | (simp <;> omega))) | (with_reducible refine below_call ?_ (Drew.below (by assumption) _) (by first | omega | (simp <;> omega)))))
      · have hne := rep_any hall
        have Hne := Lib.hid hne
        clear hall hne
        simp only [rgO, Option.isSome]
        have TZ := TS.below hbZ (by omega)
        have VZ := VS.below hbZ (by omega)
        go_wp2
        go_roundg (n - (k + 1))
        case measure => omega
        case rel =>
          refine ⟨k + 1, by omega, by omega, by go_num, grown_below gZ (((Below.refl _ _).alloc (Nat.le_refl _) _).mono gZ.size), VZ.below ((Below.refl _ _).alloc (Nat.le_refl _) _) (by omega), G9, _, TZ.below ((Below.refl _ _).alloc (Nat.le_refl _) _) (by omega), hR9, hCI9, hCB9, ?_⟩
          have hfin := Hfa.out
          rw [fitA_some _ _ _ _ _ Hne.out] at hfin
          exact hfin
    · have hltz : ¬ (k : Int) < (n : Int) := by omega
      obtain rfl : k = n := by omega
      have hfin := hFA.out
      rw [List.drop_eq_nil_of_le (by unfold seenZ; have := hn.out; simp; omega)] at hfin
      obtain ⟨rfl, rfl⟩ := Prod.mk.inj hfin
      clear hfin
      have hall := all_any_rep hr hRG.out hCI.out
      have hAS := hA G (okO_rep hRG.out (fun s m h => by have := hCB.out s m h; omega))
      generalize sumJ G 1891 = o at hall hAS
      have Hall := Lib.hid hall
      clear hall
      go_wp2_with (refine wpList_load_tab rfl _ rfl _ rfl (rawF G) hGT.out ?_)
      refine (hAS _).mono ?_
      rintro e wZ ⟨rfl, hbZ⟩
      have hzZ := hbZ.size
      obtain ⟨x, y, hxy⟩ : ∃ x y, rgO o = .agg #[.int .i64 x, .int .i64 y] := ⟨_, _, rfl⟩
      rw [hxy]
      have Hxy := Lib.hid hxy
      clear hxy
      have U0 := (hbZ.cell (p := ⟨w.heap.size + 1 + 1, 0, none⟩) (by show w.heap.size + 1 + 1 < _; omega)).trans u0'
      have U1 := (hbZ.cell (p := ⟨w.heap.size + 1 + 1, 1, none⟩) (by show w.heap.size + 1 + 1 < _; omega)).trans u1'
      have v0 : wZ.frozen? ⟨w.heap.size + 1 + 1, 0, none⟩ = false := (hbZ.frozen (p := ⟨w.heap.size + 1 + 1, 0, none⟩) (by show w.heap.size + 1 + 1 < _; omega)).trans ((World.frozen?_of_block (a := ⟨w.heap.size + 1 + 1, 0, none⟩) (hgw.out.block (w.heap.size + 1 + 1) (by omega) (fun e => by cases e; omega))).trans v0)
      have v1 : wZ.frozen? ⟨w.heap.size + 1 + 1, 1, none⟩ = false := (hbZ.frozen (p := ⟨w.heap.size + 1 + 1, 1, none⟩) (by show w.heap.size + 1 + 1 < _; omega)).trans ((World.frozen?_of_block (a := ⟨w.heap.size + 1 + 1, 1, none⟩) (hgw.out.block (w.heap.size + 1 + 1) (by omega) (fun e => by cases e; omega))).trans v1)
      have hBZ : Below w.heap.size w wZ := hBw.trans (hbZ.mono hBw.size)
      have hlZ : w.heap.size + 1 + 1 < wZ.heap.size := by omega
      go_upto_region 10 with fail
      obtain ⟨wQ, hQ⟩ : ∃ X, X = wZ.alloc (.cells #[.int .i64 x, .int .i64 y] 23) := ⟨_, rfl⟩
      have y0 : wQ.cell? ⟨wZ.heap.size, 0, none⟩ = some (.int .i64 x) := by rw [hQ]; simp [go_sem]
      have y1 : wQ.cell? ⟨wZ.heap.size, 1, none⟩ = some (.int .i64 y) := by rw [hQ]; simp [go_sem]
      have hbQ : Below wZ.heap.size wZ wQ := by rw [hQ]; exact (Below.refl _ _).alloc (Nat.le_refl _) _
      rw [← hQ]
      clear hQ
      replace U0 := (hbQ.cell (p := ⟨w.heap.size + 1 + 1, 0, none⟩) (by show w.heap.size + 1 + 1 < _; omega)).trans U0
      replace U1 := (hbQ.cell (p := ⟨w.heap.size + 1 + 1, 1, none⟩) (by show w.heap.size + 1 + 1 < _; omega)).trans U1
      replace v0 := (hbQ.frozen (p := ⟨w.heap.size + 1 + 1, 0, none⟩) (by show w.heap.size + 1 + 1 < _; omega)).trans v0
      replace v1 := (hbQ.frozen (p := ⟨w.heap.size + 1 + 1, 1, none⟩) (by show w.heap.size + 1 + 1 < _; omega)).trans v1
      have hBQ : Below w.heap.size w wQ := hBZ.trans (hbQ.mono hBZ.size)
      have hlQ : w.heap.size + 1 + 1 < wQ.heap.size := by have := hbQ.size; omega
      clear u0 u1 u0' u1' hgw hwr hGT a0 a1 a2 a3 a4 a5 a6 a7 a8 a9 q0 q1 q2 q3 q4 q5 q6 q7 q8 q9
      go_still_tail 2, (by kernel_rfl)
      change wpList _ _ _ _ _ wQ.drew
      go_wp2
      refine bodyPost_ret (v := .tuple #[.int .i64 (-1), .agg #[.int .i64 x, .int .i64 y]]) (by simp [results, Try.results41, go_sem, U0, U1, v0, v1, hlQ]) rfl ⟨o, by rw [Hxy.out], Hall.out, ?_⟩
      exact (by (try show Below _ _ _); repeat (first | (with_reducible refine Below.setCell ?_ (by first | omega | (simp <;> omega)) _) | (with_reducible refine Below.alloc ?_ (by first | omega | (simp <;> omega)) _) | (with_reducible refine Below.drew ?_) | (with_reducible exact Below.refl _ _) | (with_reducible exact hBQ) | (with_reducible refine below_call ?_ (by assumption) (by first | omega | (simp <;> omega))) | (with_reducible refine below_call ?_ (Drew.below (by assumption) _) (by first | omega | (simp <;> omega)))))

end Go.Proofs.Ytlkecgjpmnganaa
