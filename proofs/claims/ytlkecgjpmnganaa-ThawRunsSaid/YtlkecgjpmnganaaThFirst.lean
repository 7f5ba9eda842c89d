/- Contracts: First. -/
import Derived.Test.YtlkecgjpmnganaaThRuns
set_option linter.unusedSimpArgs false
set_option linter.unusedVariables false
namespace Go.Proofs.Ytlkecgjpmnganaa
open Go.RowKit Go.Shelf

open Classical in
/-- possibly, behind one more hour -/
noncomputable def nextP (r : TR) (t : Int × Int) (C : Cs) (i p : Int) : Int := if p < 0 ∧ (∃ n, anyC (hourC r t.1 t.2 (fun b => b) C) n) then i else p
theorem nextP_yes {r : TR} {t : Int × Int} {C : Cs} {i p : Int} (h : p < 0) (h2 : ∃ n, anyC (hourC r t.1 t.2 (fun b => b) C) n) : nextP r t C i p = i := if_pos ⟨h, h2⟩
theorem nextP_no {r : TR} {t : Int × Int} {C : Cs} {i p : Int} (h : ¬ ∃ n, anyC (hourC r t.1 t.2 (fun b => b) C) n) : nextP r t C i p = p := if_neg (fun k => h k.2)
theorem nextP_old {r : TR} {t : Int × Int} {C : Cs} {i p : Int} (h : ¬ p < 0) : nextP r t C i p = p := if_neg (fun k => h k.1)

open Classical in
/-- the first hour in which sap may run, and the first one by whose end it surely has -/
noncomputable def firstS (r : TR) : List (Int × Int) → Cs → Int → Int → Int × Int
  | [], _, _, p => (p, -1)
  | t :: ts, C, i, p =>
    if (∃ n, anyC (hourC r t.1 t.2 (fun b => !b) C) n) then firstS r ts (hourC r t.1 t.2 (fun b => !b) C) (i + 1) (nextP r t C i p) else (nextP r t C i p, i)

theorem rep_none {D : Int → Prop} (h : Rep1 none D) : ¬ ∃ n, D n := fun ⟨n, hn⟩ => h n hn
theorem rep_any {p : Int × Int} {D : Int → Prop} (h : Rep1 (some p) D) : ∃ n, D n := ⟨_, h.1⟩

/-- behind First -/
def FirstPost (w : World) (er : Int) (x : Int × Int) (e : Ending) (w' : World) : Prop := e = .returned (.tuple #[.int .i64 (if er = 0 then x.1 else 0), .int .i64 (if er = 0 then x.2 else 0), .int .i64 er]) ∧ Below w.heap.size w w'

theorem firstS_some (r : TR) (t : Int × Int) (ts : List (Int × Int)) (C : Cs) (i p : Int) (h : ∃ n, anyC (hourC r t.1 t.2 (fun b => !b) C) n) :
    firstS r (t :: ts) C i p = firstS r ts (hourC r t.1 t.2 (fun b => !b) C) (i + 1) (nextP r t C i p) := by
  conv => lhs; unfold firstS
  exact if_pos h
theorem firstS_none (r : TR) (t : Int × Int) (ts : List (Int × Int)) (C : Cs) (i p : Int) (h : ¬ ∃ n, anyC (hourC r t.1 t.2 (fun b => !b) C) n) :
    firstS r (t :: ts) C i p = (nextP r t C i p, i) := by
  conv => lhs; unfold firstS
  exact if_neg h

theorem run_fld2 (x y b : Value) (w : World) : (Instr.field 118 (.agg #[x, y, .bool true]) 2).run Try.prog w = .ok (.bool true) w ∧ (Instr.field 118 (.agg #[x, y, .bool false]) 2).run Try.prog w = .ok (.bool false) w := by
  constructor <;> simp [Instr.field, Sem.run_bind, run_underlying Try.underlying118, Result.andThen, asAgg, part, Try.isAgg4, go_sem]


set_option maxRecDepth 100000 in
set_option maxHeartbeats 1000000 in
theorem first_any (r : TR) (c i : Int) (lo : Nat) (A : Option Addr) (n cc : Nat) (ts : List R) (w : World) (hx : Ranges w lo A ts) (hn : Aside (ts.length = n)) (hl : n ≤ maxLen) :
    Calls Try.prog 39 #[rV r, .agg #[.int .i64 c, .int .i64 i], .slice A n cc] w (FirstPost w (errT r c i ts) (firstS r (ts.map pr) (oneC (c, i)) 0 (-1))) := by
  have h1 := fun (W : World) (hb : Below w.heap.size w W) => check_any r c i lo A n cc ts W (hx.below hb (Nat.le_refl _)) hn hl
  have hrv : rV r = .agg #[.int .i64 r.frost, .int .i64 r.thaw, .int .i64 r.gain, .int .i64 r.full, .int .i64 r.ice, .int .i64 r.most, .int .i64 r.melt, .int .i64 r.rlow, .int .i64 r.rhigh, .int .i64 r.pull] := rfl
  by_cases h0 : errT r c i ts = 0
  · obtain ⟨hr, hst, hlen, hok⟩ := errT_ok h0
    rw [h0] at h1 ⊢
    have hn1000 : n ≤ 1000 := by have := hn.out; omega
    obtain ⟨c, i, hc, hi, e⟩ := in_nat hr hst
    obtain ⟨rfl, rfl⟩ := Prod.mk.inj e
    have eg1 : Enters Try.prog 75 := enters_of Try.func75 (by kernel_rfl) rfl
    have eg2 : Enters Try.prog 76 := enters_of Try.func76 (by kernel_rfl) rfl
    have hH1 := fun b G C lo hi W h1 h2 h3 h4 h5 => hour_any r hr b G C lo hi 75 #[] (fun b => b) W h1 h2 h3 h4 h5 eg1 (ran_pred W)
    have hH2 := fun b G C lo hi W h1 h2 h3 h4 h5 => hour_any r hr b G C lo hi 76 #[] (fun b => !b) W h1 h2 h3 h4 h5 eg2 (dry_pred W)
    rw [hrv] at h1 hH1 hH2 ⊢
    have HX : Aside (Ranges w lo A ts) := hx
    have hin0 := oneC_in hst
    obtain ⟨res, hres⟩ : ∃ res, firstS r (ts.map pr) (oneC ((c : Int), (i : Int))) 0 (-1) = res := ⟨_, rfl⟩
    rw [hres]
    have Hres := Lib.hid hres
    have Hst := Lib.hid hst
    clear hx hok h0 e eg1 eg2 hres hst
    have hfl := fun x y w => (run_fld2 x y (.bool true) w).1
    have hfl2 := fun x y w => (run_fld2 x y (.bool true) w).2
    go_enter Try.func39, Try.ntmps39
    go_wp2_with fail
    refine Calls.mono (h1 _ ?_) ?_
    · exact (by (try show Below _ _ _); repeat (first | (with_reducible refine Below.setCell ?_ (by first | omega | (simp <;> omega)) _) | (with_reducible refine Below.alloc ?_ (by first | omega | (simp <;> omega)) _) | (with_reducible refine Below.drew ?_) | (with_reducible exact Below.refl _ _) | (with_reducible refine below_call ?_ (by assumption) (by first | omega | (simp <;> omega))) | (with_reducible refine below_call ?_ (Drew.below (by assumption) _) (by first | omega | (simp <;> omega)))))
    rintro e w1 ⟨rfl, hb1⟩
    have hz1 := hb1.size
    simp only [World.size_alloc] at hz1
    have q0 := (hb1.cell (p := ⟨w.heap.size, 0, none⟩) (by show w.heap.size < _; simp; omega)).trans (show _ = some (.int .i64 r.frost) by simp [go_sem])
    have q1 := (hb1.cell (p := ⟨w.heap.size, 1, none⟩) (by show w.heap.size < _; simp; omega)).trans (show _ = some (.int .i64 r.thaw) by simp [go_sem])
    have q2 := (hb1.cell (p := ⟨w.heap.size, 2, none⟩) (by show w.heap.size < _; simp; omega)).trans (show _ = some (.int .i64 r.gain) by simp [go_sem])
    have q3 := (hb1.cell (p := ⟨w.heap.size, 3, none⟩) (by show w.heap.size < _; simp; omega)).trans (show _ = some (.int .i64 r.full) by simp [go_sem])
    have q4 := (hb1.cell (p := ⟨w.heap.size, 4, none⟩) (by show w.heap.size < _; simp; omega)).trans (show _ = some (.int .i64 r.ice) by simp [go_sem])
    have q5 := (hb1.cell (p := ⟨w.heap.size, 5, none⟩) (by show w.heap.size < _; simp; omega)).trans (show _ = some (.int .i64 r.most) by simp [go_sem])
    have q6 := (hb1.cell (p := ⟨w.heap.size, 6, none⟩) (by show w.heap.size < _; simp; omega)).trans (show _ = some (.int .i64 r.melt) by simp [go_sem])
    have q7 := (hb1.cell (p := ⟨w.heap.size, 7, none⟩) (by show w.heap.size < _; simp; omega)).trans (show _ = some (.int .i64 r.rlow) by simp [go_sem])
    have q8 := (hb1.cell (p := ⟨w.heap.size, 8, none⟩) (by show w.heap.size < _; simp; omega)).trans (show _ = some (.int .i64 r.rhigh) by simp [go_sem])
    have q9 := (hb1.cell (p := ⟨w.heap.size, 9, none⟩) (by show w.heap.size < _; simp; omega)).trans (show _ = some (.int .i64 r.pull) by simp [go_sem])
    have s0 := (hb1.cell (p := ⟨w.heap.size + 1, 0, none⟩) (by show w.heap.size + 1 < _; simp)).trans (show _ = some (.int .i64 (c : Int)) by simp [go_sem])
    have s1 := (hb1.cell (p := ⟨w.heap.size + 1, 1, none⟩) (by show w.heap.size + 1 < _; simp)).trans (show _ = some (.int .i64 (i : Int)) by simp [go_sem])
    have hB1 : Below w.heap.size w w1 := (by (try show Below _ _ _); repeat (first | (with_reducible refine Below.setCell ?_ (by first | omega | (simp <;> omega)) _) | (with_reducible refine Below.alloc ?_ (by first | omega | (simp <;> omega)) _) | (with_reducible refine Below.drew ?_) | (with_reducible exact Below.refl _ _) | (with_reducible refine below_call ?_ (by assumption) (by first | omega | (simp <;> omega))) | (with_reducible refine below_call ?_ (Drew.below (by assumption) _) (by first | omega | (simp <;> omega)))))
    go_wp2_with fail
    refine Calls.mono (from_any c i (by omega) (by omega) _) ?_
    rintro e w2 ⟨b2, rfl, hb2a, hb2b, hF2, hV2, hb2⟩
    have hz2 := hb2.size
    replace hB1 := hB1.trans (hb2.mono (show w.heap.size ≤ w1.heap.size by omega))
    replace q0 := (hb2.cell (p := ⟨w.heap.size, 0, none⟩) (by show w.heap.size < _; omega)).trans q0
    replace q1 := (hb2.cell (p := ⟨w.heap.size, 1, none⟩) (by show w.heap.size < _; omega)).trans q1
    replace q2 := (hb2.cell (p := ⟨w.heap.size, 2, none⟩) (by show w.heap.size < _; omega)).trans q2
    replace q3 := (hb2.cell (p := ⟨w.heap.size, 3, none⟩) (by show w.heap.size < _; omega)).trans q3
    replace q4 := (hb2.cell (p := ⟨w.heap.size, 4, none⟩) (by show w.heap.size < _; omega)).trans q4
    replace q5 := (hb2.cell (p := ⟨w.heap.size, 5, none⟩) (by show w.heap.size < _; omega)).trans q5
    replace q6 := (hb2.cell (p := ⟨w.heap.size, 6, none⟩) (by show w.heap.size < _; omega)).trans q6
    replace q7 := (hb2.cell (p := ⟨w.heap.size, 7, none⟩) (by show w.heap.size < _; omega)).trans q7
    replace q8 := (hb2.cell (p := ⟨w.heap.size, 8, none⟩) (by show w.heap.size < _; omega)).trans q8
    replace q9 := (hb2.cell (p := ⟨w.heap.size, 9, none⟩) (by show w.heap.size < _; omega)).trans q9
    clear hb1 s0 s1
    have hl2 : w.heap.size < w2.heap.size := by omega
    have hQ : Aside (∀ j v, w2.cell? ⟨w.heap.size, j, none⟩ = some v → w2.cell? ⟨w.heap.size, j, none⟩ = some v) := fun j v h => h
    have HQ := Lib.hid (And.intro q0 (And.intro q1 (And.intro q2 (And.intro q3 (And.intro q4 (And.intro q5 (And.intro q6 (And.intro q7 (And.intro q8 q9)))))))))
    go_wp2_with fail
    go_loopg [6, 7, 10, 24] (n) (fun gg p su f ii wr => ∃ (k b' : Nat) (G' : Fl) (C : Cs) (pp : Int), k ≤ n ∧ n - k ≤ gg ∧ ii = .int .i64 k ∧ p = .int .i64 pp ∧ su = .int .i64 (-1) ∧ f = .pointer (some ⟨b', 0, none⟩) ∧ Aside (b' < wr.heap.size ∧ Fld wr b' G' ∧ Rep G' C ∧ CIn r C ∧ (∀ s m, C s m → 0 ≤ m ∧ m ≤ (k : Int)) ∧ firstS r ((ts.drop k).map pr) C k pp = res) ∧ Aside (Below w.heap.size w wr ∧ w.heap.size < wr.heap.size) ∧
      Aside (∀ j v, w2.cell? ⟨w.heap.size, j, none⟩ = some v → wr.cell? ⟨w.heap.size, j, none⟩ = some v))
    case atStart =>
      exact ⟨0, b2, _, _, -1, Nat.zero_le _, Nat.le_refl _, rfl, rfl, rfl, rfl, ⟨hb2b, hF2, one_rep _, hin0, fun s m h => oneC_bd _ s m h, Hres.out⟩, ⟨hB1, hl2⟩, fun j v h => h⟩
    case round =>
      obtain ⟨k, b', G', C, pp, hk, hg, rfl, rfl, rfl, rfl, hF, hB, hR⟩ := hrel
      obtain ⟨hB1, hB2⟩ := hB.out
      obtain ⟨p0, p1, p2, p3, p4, p5, p6, p7, p8, p9⟩ := HQ.out
      replace p0 := hR.out _ _ p0
      replace p1 := hR.out _ _ p1
      replace p2 := hR.out _ _ p2
      replace p3 := hR.out _ _ p3
      replace p4 := hR.out _ _ p4
      replace p5 := hR.out _ _ p5
      replace p6 := hR.out _ _ p6
      replace p7 := hR.out _ _ p7
      replace p8 := hR.out _ _ p8
      replace p9 := hR.out _ _ p9
      by_cases hlt : k < n
      · obtain ⟨bb, oo, hA, _, hlb, hcs⟩ := HX.out (by have := hn.out; omega)
        subst hA
        have e0 := (hB1.cell (p := ⟨bb, oo + k * 2 + 0, none⟩) hlb).trans (hcs k 0 (by have := hn.out; omega) (by omega))
        have e1 := (hB1.cell (p := ⟨bb, oo + k * 2 + 1, none⟩) hlb).trans (hcs k 1 (by have := hn.out; omega) (by omega))
        have hsn : (ts.drop k).map pr = pr (ts[k]?.getD R.d) :: (ts.drop (k + 1)).map pr := by
          have hk2 : k < ts.length := by have := hn.out; omega
          rw [List.drop_eq_getElem_cons hk2, List.map_cons, List.getElem?_eq_getElem hk2]; rfl
        have hRes : Aside _ := hF.out.2.2.2.2.2
        generalize ts[k]?.getD R.d = t at e0 e1 hsn
        obtain ⟨tl, th⟩ := t
        simp only [R.cell, Nat.add_zero, if_true, Nat.one_ne_zero, if_false] at e0 e1
        replace hsn : (ts.drop k).map pr = (tl, th) :: (ts.drop (k + 1)).map pr := hsn
        have Hsn := Lib.hid hsn
        clear hsn hcs
        have hltz : (k : Int) < (n : Int) := by omega
        have hi0 : (0 : Int) ≤ (k : Int) := Int.natCast_nonneg _
        have hlbr : bb < wr.heap.size := by omega
        have hbd3 : ∀ s m, C s m → 0 ≤ m ∧ m ≤ 100000 := fun s m h => by have := hF.out.2.2.2.2.1 s m h; have := hn.out; omega
        by_cases hpz : pp < 0
        · skip
          go_wp2_with fail
          refine Calls.mono (hH1 b' G' C tl th _ (by have := hF.out.1; simp; omega) (hF.out.2.1.below ((Below.refl wr.heap.size wr).alloc (Nat.le_refl _) _) hF.out.1) hF.out.2.2.1 hF.out.2.2.2.1 hbd3) ?_
          rintro e w3 ⟨bw3, Gw3, rfl, w3a, w3b, w3F, w3V, w3R, hbw3⟩
          have hzw3 := hbw3.size
          (try simp only [World.size_alloc] at hzw3)
          go_wp2_with fail
          refine Calls.mono (all_any bw3 Gw3 _ w3b w3F) ?_
          rintro e w4 ⟨rfl, hbw4⟩
          have hzw4 := hbw4.size
          have haw4 := all_rep hr w3R (hourC_in hr hF.out.2.2.2.1 _ _ _)
          have hbb := hF.out.1
          have F4 := ((hF.out.2.1.below ((Below.refl wr.heap.size wr).alloc (Nat.le_refl _) (.cells #[.int .i64 tl, .int .i64 th] 23)) hF.out.1).below hbw3 (by simp; omega)).below hbw4 (by omega)
          replace p0 := (hbw4.cell (p := ⟨w.heap.size, 0, none⟩) (by show w.heap.size < _; omega)).trans ((hbw3.cell (p := ⟨w.heap.size, 0, none⟩) (by show w.heap.size < _; simp; omega)).trans (al_cell _ p0))
          replace p1 := (hbw4.cell (p := ⟨w.heap.size, 1, none⟩) (by show w.heap.size < _; omega)).trans ((hbw3.cell (p := ⟨w.heap.size, 1, none⟩) (by show w.heap.size < _; simp; omega)).trans (al_cell _ p1))
          replace p2 := (hbw4.cell (p := ⟨w.heap.size, 2, none⟩) (by show w.heap.size < _; omega)).trans ((hbw3.cell (p := ⟨w.heap.size, 2, none⟩) (by show w.heap.size < _; simp; omega)).trans (al_cell _ p2))
          replace p3 := (hbw4.cell (p := ⟨w.heap.size, 3, none⟩) (by show w.heap.size < _; omega)).trans ((hbw3.cell (p := ⟨w.heap.size, 3, none⟩) (by show w.heap.size < _; simp; omega)).trans (al_cell _ p3))
          replace p4 := (hbw4.cell (p := ⟨w.heap.size, 4, none⟩) (by show w.heap.size < _; omega)).trans ((hbw3.cell (p := ⟨w.heap.size, 4, none⟩) (by show w.heap.size < _; simp; omega)).trans (al_cell _ p4))
          replace p5 := (hbw4.cell (p := ⟨w.heap.size, 5, none⟩) (by show w.heap.size < _; omega)).trans ((hbw3.cell (p := ⟨w.heap.size, 5, none⟩) (by show w.heap.size < _; simp; omega)).trans (al_cell _ p5))
          replace p6 := (hbw4.cell (p := ⟨w.heap.size, 6, none⟩) (by show w.heap.size < _; omega)).trans ((hbw3.cell (p := ⟨w.heap.size, 6, none⟩) (by show w.heap.size < _; simp; omega)).trans (al_cell _ p6))
          replace p7 := (hbw4.cell (p := ⟨w.heap.size, 7, none⟩) (by show w.heap.size < _; omega)).trans ((hbw3.cell (p := ⟨w.heap.size, 7, none⟩) (by show w.heap.size < _; simp; omega)).trans (al_cell _ p7))
          replace p8 := (hbw4.cell (p := ⟨w.heap.size, 8, none⟩) (by show w.heap.size < _; omega)).trans ((hbw3.cell (p := ⟨w.heap.size, 8, none⟩) (by show w.heap.size < _; simp; omega)).trans (al_cell _ p8))
          replace p9 := (hbw4.cell (p := ⟨w.heap.size, 9, none⟩) (by show w.heap.size < _; omega)).trans ((hbw3.cell (p := ⟨w.heap.size, 9, none⟩) (by show w.heap.size < _; simp; omega)).trans (al_cell _ p9))
          have z0 := (hbw4.cell (p := ⟨wr.heap.size, 0, none⟩) (by show wr.heap.size < _; omega)).trans ((hbw3.cell (p := ⟨wr.heap.size, 0, none⟩) (by show wr.heap.size < _; simp)).trans (show _ = some (.int .i64 tl) by simp [go_sem]))
          have z1 := (hbw4.cell (p := ⟨wr.heap.size, 1, none⟩) (by show wr.heap.size < _; omega)).trans ((hbw3.cell (p := ⟨wr.heap.size, 1, none⟩) (by show wr.heap.size < _; simp)).trans (show _ = some (.int .i64 th) by simp [go_sem]))
          rcases hq4 : sumC (come Gw3 1891) with _ | ⟨x4, y4⟩
          · rw [hq4] at haw4
            simp only [cV]
            go_wp2_with fail
            refine Calls.mono (hH2 b' G' C tl th _ (by omega) F4 hF.out.2.2.1 hF.out.2.2.2.1 hbd3) ?_
            rintro e w5 ⟨bw5, Gw5, rfl, w5a, w5b, w5F, w5V, w5R, hbw5⟩
            have hzw5 := hbw5.size
            (try simp only [World.size_alloc] at hzw5)
            go_wp2_with fail
            refine Calls.mono (all_any bw5 Gw5 _ w5b w5F) ?_
            rintro e w6 ⟨rfl, hbw6⟩
            have hzw6 := hbw6.size
            have haw6 := all_rep hr w5R (hourC_in hr hF.out.2.2.2.1 _ _ _)
            rcases hq6 : sumC (come Gw5 1891) with _ | ⟨x6, y6⟩
            · rw [hq6] at haw6
              have hfin := hRes.out
              rw [Hsn.out, firstS_none _ _ _ _ _ _ (rep_none haw6)] at hfin
              have hnp : nextP r (tl, th) C k pp = pp := nextP_no (rep_none haw4)
              rw [hnp] at hfin
              subst hfin
              simp only [cV]
              go_wp2
              refine bodyPost_ret (v := .tuple #[.int .i64 pp, .int .i64 k, .int .i64 0]) (by simp [results, Try.results39, go_sem]) rfl ⟨rfl, (by (try show Below _ _ _); repeat (first | (with_reducible refine Below.setCell ?_ (by first | omega | (simp <;> omega)) _) | (with_reducible refine Below.alloc ?_ (by first | omega | (simp <;> omega)) _) | (with_reducible refine Below.drew ?_) | (with_reducible exact Below.refl _ _) | (with_reducible exact hB1) | (with_reducible refine below_call ?_ (by assumption) (by first | omega | (simp <;> omega))) | (with_reducible refine below_call ?_ (Drew.below (by assumption) _) (by first | omega | (simp <;> omega)))))⟩
            · rw [hq6] at haw6
              simp only [cV]
              go_wp2
              go_roundg (n - (k + 1))
              case measure => omega
              case rel =>
                refine ⟨k + 1, bw5, Gw5, _, pp, by omega, by omega, by go_num, rfl, rfl, rfl, ⟨by omega, w5F.below hbw6 w5b, w5R, hourC_in hr hF.out.2.2.2.1 _ _ _, fun s m h => by have := hourC_bd hF.out.2.2.2.2.1 _ _ _ s m h; omega, ?_⟩, ⟨(by (try show Below _ _ _); repeat (first | (with_reducible refine Below.setCell ?_ (by first | omega | (simp <;> omega)) _) | (with_reducible refine Below.alloc ?_ (by first | omega | (simp <;> omega)) _) | (with_reducible refine Below.drew ?_) | (with_reducible exact Below.refl _ _) | (with_reducible exact hB1) | (with_reducible refine below_call ?_ (by assumption) (by first | omega | (simp <;> omega))) | (with_reducible refine below_call ?_ (Drew.below (by assumption) _) (by first | omega | (simp <;> omega))))), by omega⟩, fun j v h => ?_⟩
                · have hfin := hRes.out
                  rw [Hsn.out, firstS_some _ _ _ _ _ _ (rep_any haw6)] at hfin
                  have hnp : nextP r (tl, th) C k pp = pp := nextP_no (rep_none haw4)
                  rw [hnp] at hfin
                  exact hfin
                · exact (hbw6.cell (p := ⟨w.heap.size, j, none⟩) (by show w.heap.size < _; omega)).trans ((hbw5.cell (p := ⟨w.heap.size, j, none⟩) (by show w.heap.size < _; first | omega | (simp; omega))).trans ((hbw4.cell (p := ⟨w.heap.size, j, none⟩) (by show w.heap.size < _; omega)).trans ((hbw3.cell (p := ⟨w.heap.size, j, none⟩) (by show w.heap.size < _; simp; omega)).trans (al_cell _ (hR.out j v h)))))
          · rw [hq4] at haw4
            simp only [cV]
            go_wp2_with fail
            refine Calls.mono (hH2 b' G' C tl th _ (by omega) F4 hF.out.2.2.1 hF.out.2.2.2.1 hbd3) ?_
            rintro e w5 ⟨bw5, Gw5, rfl, w5a, w5b, w5F, w5V, w5R, hbw5⟩
            have hzw5 := hbw5.size
            (try simp only [World.size_alloc] at hzw5)
            go_wp2_with fail
            refine Calls.mono (all_any bw5 Gw5 _ w5b w5F) ?_
            rintro e w6 ⟨rfl, hbw6⟩
            have hzw6 := hbw6.size
            have haw6 := all_rep hr w5R (hourC_in hr hF.out.2.2.2.1 _ _ _)
            rcases hq6 : sumC (come Gw5 1891) with _ | ⟨x6, y6⟩
            · rw [hq6] at haw6
              have hfin := hRes.out
              rw [Hsn.out, firstS_none _ _ _ _ _ _ (rep_none haw6)] at hfin
              have hnp : nextP r (tl, th) C k pp = k := nextP_yes hpz (rep_any haw4)
              rw [hnp] at hfin
              subst hfin
              simp only [cV]
              go_wp2
              refine bodyPost_ret (v := .tuple #[.int .i64 k, .int .i64 k, .int .i64 0]) (by simp [results, Try.results39, go_sem]) rfl ⟨rfl, (by (try show Below _ _ _); repeat (first | (with_reducible refine Below.setCell ?_ (by first | omega | (simp <;> omega)) _) | (with_reducible refine Below.alloc ?_ (by first | omega | (simp <;> omega)) _) | (with_reducible refine Below.drew ?_) | (with_reducible exact Below.refl _ _) | (with_reducible exact hB1) | (with_reducible refine below_call ?_ (by assumption) (by first | omega | (simp <;> omega))) | (with_reducible refine below_call ?_ (Drew.below (by assumption) _) (by first | omega | (simp <;> omega)))))⟩
            · rw [hq6] at haw6
              simp only [cV]
              go_wp2
              go_roundg (n - (k + 1))
              case measure => omega
              case rel =>
                refine ⟨k + 1, bw5, Gw5, _, k, by omega, by omega, by go_num, rfl, rfl, rfl, ⟨by omega, w5F.below hbw6 w5b, w5R, hourC_in hr hF.out.2.2.2.1 _ _ _, fun s m h => by have := hourC_bd hF.out.2.2.2.2.1 _ _ _ s m h; omega, ?_⟩, ⟨(by (try show Below _ _ _); repeat (first | (with_reducible refine Below.setCell ?_ (by first | omega | (simp <;> omega)) _) | (with_reducible refine Below.alloc ?_ (by first | omega | (simp <;> omega)) _) | (with_reducible refine Below.drew ?_) | (with_reducible exact Below.refl _ _) | (with_reducible exact hB1) | (with_reducible refine below_call ?_ (by assumption) (by first | omega | (simp <;> omega))) | (with_reducible refine below_call ?_ (Drew.below (by assumption) _) (by first | omega | (simp <;> omega))))), by omega⟩, fun j v h => ?_⟩
                · have hfin := hRes.out
                  rw [Hsn.out, firstS_some _ _ _ _ _ _ (rep_any haw6)] at hfin
                  have hnp : nextP r (tl, th) C k pp = k := nextP_yes hpz (rep_any haw4)
                  rw [hnp] at hfin
                  exact hfin
                · exact (hbw6.cell (p := ⟨w.heap.size, j, none⟩) (by show w.heap.size < _; omega)).trans ((hbw5.cell (p := ⟨w.heap.size, j, none⟩) (by show w.heap.size < _; first | omega | (simp; omega))).trans ((hbw4.cell (p := ⟨w.heap.size, j, none⟩) (by show w.heap.size < _; omega)).trans ((hbw3.cell (p := ⟨w.heap.size, j, none⟩) (by show w.heap.size < _; simp; omega)).trans (al_cell _ (hR.out j v h)))))
        · skip
          go_wp2_with fail
          refine Calls.mono (hH2 b' G' C tl th _ (by have := hF.out.1; simp; omega) (hF.out.2.1.below ((Below.refl wr.heap.size wr).alloc (Nat.le_refl _) _) hF.out.1) hF.out.2.2.1 hF.out.2.2.2.1 hbd3) ?_
          rintro e w5 ⟨bw5, Gw5, rfl, w5a, w5b, w5F, w5V, w5R, hbw5⟩
          have hzw5 := hbw5.size
          (try simp only [World.size_alloc] at hzw5)
          go_wp2_with fail
          refine Calls.mono (all_any bw5 Gw5 _ w5b w5F) ?_
          rintro e w6 ⟨rfl, hbw6⟩
          have hzw6 := hbw6.size
          have haw6 := all_rep hr w5R (hourC_in hr hF.out.2.2.2.1 _ _ _)
          rcases hq6 : sumC (come Gw5 1891) with _ | ⟨x6, y6⟩
          · rw [hq6] at haw6
            have hfin := hRes.out
            rw [Hsn.out, firstS_none _ _ _ _ _ _ (rep_none haw6)] at hfin
            have hnp : nextP r (tl, th) C k pp = pp := nextP_old (by omega)
            rw [hnp] at hfin
            subst hfin
            simp only [cV]
            go_wp2
            refine bodyPost_ret (v := .tuple #[.int .i64 pp, .int .i64 k, .int .i64 0]) (by simp [results, Try.results39, go_sem]) rfl ⟨rfl, (by (try show Below _ _ _); repeat (first | (with_reducible refine Below.setCell ?_ (by first | omega | (simp <;> omega)) _) | (with_reducible refine Below.alloc ?_ (by first | omega | (simp <;> omega)) _) | (with_reducible refine Below.drew ?_) | (with_reducible exact Below.refl _ _) | (with_reducible exact hB1) | (with_reducible refine below_call ?_ (by assumption) (by first | omega | (simp <;> omega))) | (with_reducible refine below_call ?_ (Drew.below (by assumption) _) (by first | omega | (simp <;> omega)))))⟩
          · rw [hq6] at haw6
            simp only [cV]
            go_wp2
            go_roundg (n - (k + 1))
            case measure => omega
            case rel =>
              refine ⟨k + 1, bw5, Gw5, _, pp, by omega, by omega, by go_num, rfl, rfl, rfl, ⟨by omega, w5F.below hbw6 w5b, w5R, hourC_in hr hF.out.2.2.2.1 _ _ _, fun s m h => by have := hourC_bd hF.out.2.2.2.2.1 _ _ _ s m h; omega, ?_⟩, ⟨(by (try show Below _ _ _); repeat (first | (with_reducible refine Below.setCell ?_ (by first | omega | (simp <;> omega)) _) | (with_reducible refine Below.alloc ?_ (by first | omega | (simp <;> omega)) _) | (with_reducible refine Below.drew ?_) | (with_reducible exact Below.refl _ _) | (with_reducible exact hB1) | (with_reducible refine below_call ?_ (by assumption) (by first | omega | (simp <;> omega))) | (with_reducible refine below_call ?_ (Drew.below (by assumption) _) (by first | omega | (simp <;> omega))))), by omega⟩, fun j v h => ?_⟩
              · have hfin := hRes.out
                rw [Hsn.out, firstS_some _ _ _ _ _ _ (rep_any haw6)] at hfin
                have hnp : nextP r (tl, th) C k pp = pp := nextP_old (by omega)
                rw [hnp] at hfin
                exact hfin
              · exact (hbw6.cell (p := ⟨w.heap.size, j, none⟩) (by show w.heap.size < _; omega)).trans ((hbw5.cell (p := ⟨w.heap.size, j, none⟩) (by show w.heap.size < _; first | omega | (simp; omega))).trans (al_cell _ (hR.out j v h)))
      · have hltz : ¬ (k : Int) < (n : Int) := by omega
        obtain rfl : k = n := by omega
        have hfin := hF.out.2.2.2.2.2
        rw [List.drop_eq_nil_of_le (by have := hn.out; omega)] at hfin
        obtain rfl : res = (pp, -1) := hfin.symm
        go_wp2
        refine bodyPost_ret (v := .tuple #[.int .i64 pp, .int .i64 (-1), .int .i64 0]) (by simp [results, Try.results39, go_sem]) rfl ⟨rfl, hB1⟩
  · rw [hrv] at h1 ⊢
    generalize errT r c i ts = er at h0 h1
    have h0' : (er == 0) = false := by simpa using h0
    clear hx hrv
    go_enter Try.func39, Try.ntmps39
    go_wp2_with fail
    refine Calls.mono (h1 _ ?_) ?_
    · exact (by (try show Below _ _ _); repeat (first | (with_reducible refine Below.setCell ?_ (by first | omega | (simp <;> omega)) _) | (with_reducible refine Below.alloc ?_ (by first | omega | (simp <;> omega)) _) | (with_reducible refine Below.drew ?_) | (with_reducible exact Below.refl _ _) | (with_reducible refine below_call ?_ (by assumption) (by first | omega | (simp <;> omega))) | (with_reducible refine below_call ?_ (Drew.below (by assumption) _) (by first | omega | (simp <;> omega)))))
    rintro e w1 ⟨rfl, hb1⟩
    have hz1 := hb1.size
    simp only [World.size_alloc] at hz1
    go_wp2
    refine bodyPost_ret (v := .tuple #[.int .i64 0, .int .i64 0, .int .i64 er]) (by simp [results, Try.results39, go_sem]) rfl ⟨by simp [h0], (by (try show Below _ _ _); repeat (first | (with_reducible refine Below.setCell ?_ (by first | omega | (simp <;> omega)) _) | (with_reducible refine Below.alloc ?_ (by first | omega | (simp <;> omega)) _) | (with_reducible refine Below.drew ?_) | (with_reducible exact Below.refl _ _) | (with_reducible refine below_call ?_ (by assumption) (by first | omega | (simp <;> omega))) | (with_reducible refine below_call ?_ (Drew.below (by assumption) _) (by first | omega | (simp <;> omega)))))⟩


end Go.Proofs.Ytlkecgjpmnganaa
