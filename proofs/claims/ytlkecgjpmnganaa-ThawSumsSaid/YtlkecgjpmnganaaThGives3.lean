/- Contracts: the reference's Gives. -/
import Derived.Test.YtlkecgjpmnganaaThGives2
import Derived.Outline
import Derived.StillTailTactics
set_option linter.unusedSimpArgs false
set_option linter.unusedVariables false
namespace Go.Proofs.Ytlkecgjpmnganaa
open Go.RowKit Go.Shelf

theorem sumR_app (l : List R) (x : R) : sumR (l ++ [x]) = ⟨(sumR l).lo + x.lo, (sumR l).hi + x.hi⟩ := by
  simp [sumR, List.foldl_append]


set_option maxRecDepth 100000 in
set_option maxHeartbeats 2000000 in
theorem refGives_any (r : TR) (lo : Nat) (A : Option Addr) (n cc : Nat) (gs : List Gp) (w : World) (hx : gpL.at w lo A gs) (hn : Aside (gs.length = n)) (hl : n ≤ maxLen) :
    Calls Try.prog 50 #[rV r, .slice A n cc] w (GivesPost w (errG r gs) (if errG r gs = 0 then sumR (gs.map (giveR r)) else R.d)) := by
  unfold maxLen at hl
  have h1 := fun (W : World) => refRules_any r W
  have hrv : rV r = .agg #[.int .i64 r.frost, .int .i64 r.thaw, .int .i64 r.gain, .int .i64 r.full, .int .i64 r.ice, .int .i64 r.most, .int .i64 r.melt, .int .i64 r.rlow, .int .i64 r.rhigh, .int .i64 r.pull] := rfl
  have he : errG r gs = if okRules r then (if 60 < n then 5 else if gs.all okG then 0 else 2) else 2 := by unfold errG; rw [hn.out]
  generalize errG r gs = er at he ⊢
  obtain ⟨res, hres⟩ : ∃ res, (if er = 0 then sumR (gs.map (giveR r)) else R.d) = res := ⟨_, rfl⟩
  rw [hres]
  have hbb : okRules r = true → TROk r := (okRules_iff r).1
  generalize okRules r = b1 at he h1 hbb
  rw [hrv] at h1 ⊢
  have HX : Aside (gpL.at w lo A gs) := hx
  clear hx hrv
  cases b1 with
  | false =>
    simp only [Bool.false_eq_true, if_false] at he
    subst he
    obtain rfl : R.d = res := hres
    go_enter Try.func50, Try.ntmps50
    go_wp2_with fail
    refine (h1 _).mono ?_
    rintro e w1 ⟨rfl, hb1⟩
    have hz1 := hb1.size
    simp only [World.size_alloc] at hz1
    have hl3 : w.heap.size + 1 < w1.heap.size := by omega
    have hl0 : w.heap.size < w1.heap.size := by omega
    have u0 := (hb1.cell (p := ⟨w.heap.size + 1, 0, none⟩) (by show w.heap.size + 1 < _; simp)).trans (show _ = some (.int .i64 0) by simp [go_sem])
    have u1 := (hb1.cell (p := ⟨w.heap.size + 1, 1, none⟩) (by show w.heap.size + 1 < _; simp)).trans (show _ = some (.int .i64 0) by simp [go_sem])
    have v0 := (hb1.frozen (p := ⟨w.heap.size + 1, 0, none⟩) (by show w.heap.size + 1 < _; simp)).trans (show _ = false by simp [go_sem])
    have v1 := (hb1.frozen (p := ⟨w.heap.size + 1, 1, none⟩) (by show w.heap.size + 1 < _; simp)).trans (show _ = false by simp [go_sem])
    have hB1 : Below w.heap.size w w1 := (by (try show Below _ _ _); repeat (first | (with_reducible refine Below.setCell ?_ (by first | omega | (simp <;> omega)) _) | (with_reducible refine Below.alloc ?_ (by first | omega | (simp <;> omega)) _) | (with_reducible refine Below.drew ?_) | (with_reducible exact Below.refl _ _) | (with_reducible exact hb1) | (with_reducible refine below_call ?_ (by assumption) (by first | omega | (simp <;> omega))) | (with_reducible refine below_call ?_ (Drew.below (by assumption) _) (by first | omega | (simp <;> omega)))))
    go_wp2
    refine bodyPost_ret (v := .tuple #[.agg #[.int .i64 0, .int .i64 0], .int .i64 2]) (by simp [results, Try.results50, go_sem, u0, u1, hl3]) rfl ⟨rfl, (by (try show Below _ _ _); repeat (first | (with_reducible refine Below.setCell ?_ (by first | omega | (simp <;> omega)) _) | (with_reducible refine Below.alloc ?_ (by first | omega | (simp <;> omega)) _) | (with_reducible refine Below.drew ?_) | (with_reducible exact Below.refl _ _) | (with_reducible exact hB1) | (with_reducible refine below_call ?_ (by assumption) (by first | omega | (simp <;> omega))) | (with_reducible refine below_call ?_ (Drew.below (by assumption) _) (by first | omega | (simp <;> omega)))))⟩
  | true =>
    have hr := hbb rfl
    simp only [if_true] at he h1
    by_cases hlen : 60 < n
    · rw [if_pos hlen] at he
      subst he
      obtain rfl : R.d = res := hres
      have hlz : (60 : Int) < (n : Int) := by omega
      go_enter Try.func50, Try.ntmps50
      go_wp2_with fail
      refine (h1 _).mono ?_
      rintro e w1 ⟨rfl, hb1⟩
      have hz1 := hb1.size
      simp only [World.size_alloc] at hz1
      have hl3 : w.heap.size + 1 < w1.heap.size := by omega
      have hl0 : w.heap.size < w1.heap.size := by omega
      have u0 := (hb1.cell (p := ⟨w.heap.size + 1, 0, none⟩) (by show w.heap.size + 1 < _; simp)).trans (show _ = some (.int .i64 0) by simp [go_sem])
      have u1 := (hb1.cell (p := ⟨w.heap.size + 1, 1, none⟩) (by show w.heap.size + 1 < _; simp)).trans (show _ = some (.int .i64 0) by simp [go_sem])
      have v0 := (hb1.frozen (p := ⟨w.heap.size + 1, 0, none⟩) (by show w.heap.size + 1 < _; simp)).trans (show _ = false by simp [go_sem])
      have v1 := (hb1.frozen (p := ⟨w.heap.size + 1, 1, none⟩) (by show w.heap.size + 1 < _; simp)).trans (show _ = false by simp [go_sem])
      have hB1 : Below w.heap.size w w1 := (by (try show Below _ _ _); repeat (first | (with_reducible refine Below.setCell ?_ (by first | omega | (simp <;> omega)) _) | (with_reducible refine Below.alloc ?_ (by first | omega | (simp <;> omega)) _) | (with_reducible refine Below.drew ?_) | (with_reducible exact Below.refl _ _) | (with_reducible exact hb1) | (with_reducible refine below_call ?_ (by assumption) (by first | omega | (simp <;> omega))) | (with_reducible refine below_call ?_ (Drew.below (by assumption) _) (by first | omega | (simp <;> omega)))))
      go_wp2
      refine bodyPost_ret (v := .tuple #[.agg #[.int .i64 0, .int .i64 0], .int .i64 5]) (by simp [results, Try.results50, go_sem, u0, u1, hl3]) rfl ⟨rfl, (by (try show Below _ _ _); repeat (first | (with_reducible refine Below.setCell ?_ (by first | omega | (simp <;> omega)) _) | (with_reducible refine Below.alloc ?_ (by first | omega | (simp <;> omega)) _) | (with_reducible refine Below.drew ?_) | (with_reducible exact Below.refl _ _) | (with_reducible exact hB1) | (with_reducible refine below_call ?_ (by assumption) (by first | omega | (simp <;> omega))) | (with_reducible refine below_call ?_ (Drew.below (by assumption) _) (by first | omega | (simp <;> omega)))))⟩
    · rw [if_neg hlen] at he
      have hlz : ¬ (60 : Int) < (n : Int) := by omega
      have He := Lib.hid he
      have HRes := Lib.hid hres
      have r1 := hr.r1; have r2 := hr.r2; have r3 := hr.r3; have p1 := hr.p1; have p2 := hr.p2
      clear he hbb hres
      go_enter Try.func50, Try.ntmps50
      go_wp2_with fail
      refine (h1 _).mono ?_
      rintro e w1 ⟨rfl, hb1⟩
      have hz1 := hb1.size
      simp only [World.size_alloc] at hz1
      have hl3 : w.heap.size + 1 < w1.heap.size := by omega
      have hl0 : w.heap.size < w1.heap.size := by omega
      have u0 := (hb1.cell (p := ⟨w.heap.size + 1, 0, none⟩) (by show w.heap.size + 1 < _; simp)).trans (show _ = some (.int .i64 0) by simp [go_sem])
      have u1 := (hb1.cell (p := ⟨w.heap.size + 1, 1, none⟩) (by show w.heap.size + 1 < _; simp)).trans (show _ = some (.int .i64 0) by simp [go_sem])
      have v0 := (hb1.frozen (p := ⟨w.heap.size + 1, 0, none⟩) (by show w.heap.size + 1 < _; simp)).trans (show _ = false by simp [go_sem])
      have v1 := (hb1.frozen (p := ⟨w.heap.size + 1, 1, none⟩) (by show w.heap.size + 1 < _; simp)).trans (show _ = false by simp [go_sem])
      have hB1 : Below w.heap.size w w1 := (by (try show Below _ _ _); repeat (first | (with_reducible refine Below.setCell ?_ (by first | omega | (simp <;> omega)) _) | (with_reducible refine Below.alloc ?_ (by first | omega | (simp <;> omega)) _) | (with_reducible refine Below.drew ?_) | (with_reducible exact Below.refl _ _) | (with_reducible exact hb1) | (with_reducible refine below_call ?_ (by assumption) (by first | omega | (simp <;> omega))) | (with_reducible refine below_call ?_ (Drew.below (by assumption) _) (by first | omega | (simp <;> omega)))))
      have q7 := (hb1.cell (p := ⟨w.heap.size, 7, none⟩) (by show w.heap.size < _; simp; omega)).trans (show _ = some (.int .i64 r.rlow) by simp [go_sem])
      have q8 := (hb1.cell (p := ⟨w.heap.size, 8, none⟩) (by show w.heap.size < _; simp; omega)).trans (show _ = some (.int .i64 r.rhigh) by simp [go_sem])
      have q9 := (hb1.cell (p := ⟨w.heap.size, 9, none⟩) (by show w.heap.size < _; simp; omega)).trans (show _ = some (.int .i64 r.pull) by simp [go_sem])
      have HQ := Lib.hid (And.intro q7 (And.intro q8 (And.intro q9 (And.intro u0 (And.intro u1 (And.intro v0 v1))))))
      clear q7 q8 q9 u0 u1 v0 v1
      have hB2 : Aside (Below w.heap.size w w1) := hB1
      clear hB1
      go_wp2_with fail
      go_loopg [6, 7, 8] (n) (fun gg va vb ii wr => ∃ (k : Nat) (x y : Int), k ≤ n ∧ n - k ≤ gg ∧ va = .int .i64 x ∧ vb = .int .i64 y ∧ ii = .int .i64 k ∧ Aside (∀ g ∈ gs.take k, okG g = true) ∧ Aside (sumR ((gs.take k).map (giveR r)) = ⟨x, y⟩) ∧ Aside (0 ≤ x ∧ x ≤ y ∧ y ≤ 10100000000 * k) ∧ Aside (Below w1.heap.size w1 wr))
      case atStart =>
        exact ⟨0, 0, 0, Nat.zero_le _, Nat.le_refl _, rfl, rfl, rfl, (fun g hg => by simp at hg), rfl, ⟨by omega, by omega, by simp⟩, Below.refl _ _⟩
      case round =>
        obtain ⟨k, x, y, hk, hg, rfl, rfl, rfl, hA, hS, hbd, hB⟩ := hrel
        obtain ⟨q7, q8, q9, u0, u1, v0, v1⟩ := HQ.out
        have hbs := hB.out.size
        replace q7 := (hB.out.cell hl0).trans q7
        replace q8 := (hB.out.cell hl0).trans q8
        replace q9 := (hB.out.cell hl0).trans q9
        replace u0 := (hB.out.cell hl3).trans u0
        replace u1 := (hB.out.cell hl3).trans u1
        replace v0 := (hB.out.frozen (p := ⟨w.heap.size + 1, 0, none⟩) hl3).trans v0
        replace v1 := (hB.out.frozen (p := ⟨w.heap.size + 1, 1, none⟩) hl3).trans v1
        have hB1 : Below w.heap.size w wr := hB2.out.trans (hB.out.mono (by omega))
        have hlr : w.heap.size < wr.heap.size := by omega
        have hlr2 : w.heap.size + 1 < wr.heap.size := by omega
        by_cases hlt : k < n
        · obtain ⟨bb, oo, hAA, _, hlb, hcs⟩ := HX.out (by have := hn.out; omega)
          subst hAA
          have e0 := (hB1.cell (p := ⟨bb, oo + k * 3 + 0, none⟩) hlb).trans (hcs k 0 (by have := hn.out; omega) (by show 0 < 3; omega))
          have e1 := (hB1.cell (p := ⟨bb, oo + k * 3 + 1, none⟩) hlb).trans (hcs k 1 (by have := hn.out; omega) (by show 1 < 3; omega))
          have e2 := (hB1.cell (p := ⟨bb, oo + k * 3 + 2, none⟩) hlb).trans (hcs k 2 (by have := hn.out; omega) (by show 2 < 3; omega))
          have hk2 : k < gs.length := by have := hn.out; omega
          have htk : gs.take (k + 1) = gs.take k ++ [gs[k]?.getD gpL.d] := by rw [List.take_succ_eq_append_getElem hk2, List.getElem?_eq_getElem hk2]; rfl
          have hmem : gs[k]?.getD gpL.d ∈ gs := by rw [List.getElem?_eq_getElem hk2]; exact List.getElem_mem _
          generalize gs[k]?.getD gpL.d = g at e0 e1 e2 htk hmem
          obtain ⟨ga, gb, gc⟩ := g
          replace e0 : wr.cell? ⟨bb, oo + k * 3, none⟩ = some (.int .i64 ga) := e0
          replace e1 : wr.cell? ⟨bb, oo + k * 3 + 1, none⟩ = some (.int .i64 gb) := e1
          replace e2 : wr.cell? ⟨bb, oo + k * 3 + 2, none⟩ = some (.int .i64 gc) := e2
          have Htk := Lib.hid htk
          have Hmem := Lib.hid hmem
          have hw := fun (W : World) => refGroup_any ga gb gc W
          clear htk hcs hmem
          have hltz : (k : Int) < (n : Int) := by omega
          have hi0 : (0 : Int) ≤ (k : Int) := Int.natCast_nonneg _
          have hlbr : bb < wr.heap.size := by have := hB1.size; omega
          cases hok : okG ⟨ga, gb, gc⟩ with
          | false =>
            rw [hok] at hw
            obtain rfl : er = 2 := by
              have h2 : gs.all okG = false := by
                cases h3 : gs.all okG with
                | false => rfl
                | true => have := List.all_eq_true.1 h3 _ Hmem.out; rw [hok] at this; cases this
              rw [He.out, h2]; rfl
            obtain rfl : R.d = res := HRes.out
            clear hok hA hS hbd
            go_wp2_with fail
            refine (hw _).mono ?_
            rintro e w3 ⟨rfl, hb3⟩
            have hz3 := hb3.size
            simp only [World.size_alloc] at hz3
            have y0 := (hb3.cell (p := ⟨w.heap.size + 1, 0, none⟩) (by show w.heap.size + 1 < _; simp; omega)).trans (al_cell _ u0)
            have y1 := (hb3.cell (p := ⟨w.heap.size + 1, 1, none⟩) (by show w.heap.size + 1 < _; simp; omega)).trans (al_cell _ u1)
            have z0 := (hb3.frozen (p := ⟨w.heap.size + 1, 0, none⟩) (by show w.heap.size + 1 < _; simp; omega)).trans ((((Below.refl wr.heap.size wr).alloc (Nat.le_refl _) _).frozen (p := ⟨w.heap.size + 1, 0, none⟩) hlr2).trans v0)
            have z1 := (hb3.frozen (p := ⟨w.heap.size + 1, 1, none⟩) (by show w.heap.size + 1 < _; simp; omega)).trans ((((Below.refl wr.heap.size wr).alloc (Nat.le_refl _) _).frozen (p := ⟨w.heap.size + 1, 1, none⟩) hlr2).trans v1)
            have hl5 : w.heap.size + 1 < w3.heap.size := by omega
            go_wp2
            refine bodyPost_ret (v := .tuple #[.agg #[.int .i64 0, .int .i64 0], .int .i64 2]) (by simp [results, Try.results50, go_sem, y0, y1, hl5]) rfl ⟨rfl, (by (try show Below _ _ _); repeat (first | (with_reducible refine Below.setCell ?_ (by first | omega | (simp <;> omega)) _) | (with_reducible refine Below.alloc ?_ (by first | omega | (simp <;> omega)) _) | (with_reducible refine Below.drew ?_) | (with_reducible exact Below.refl _ _) | (with_reducible exact hB1) | (with_reducible refine below_call ?_ (by assumption) (by first | omega | (simp <;> omega))) | (with_reducible refine below_call ?_ (Drew.below (by assumption) _) (by first | omega | (simp <;> omega)))))⟩
          | true =>
            rw [hok] at hw
            have hokk := (okG_iff _).1 hok
            simp only at hokk
            obtain ⟨⟨g1, g2⟩, g3, g4, g5⟩ := hokk
            have a := give_bd g1 g2 r1 (by omega) p1 p2 g3 (by omega)
            have b := give_bd g1 g2 (show 0 ≤ r.rhigh by omega) r3 p1 p2 (show 0 ≤ gc by omega) g5
            have hgo := giveR_ok hr hok
            have hgr : giveR r ⟨ga, gb, gc⟩ = ⟨ga * r.rlow * (10000 + r.pull * gb) / 10000, (ga * r.rhigh * (10000 + r.pull * gc) + 10000 - 1) / 10000⟩ := rfl
            rw [hgr] at hgo
            simp only at hgo
            obtain ⟨c1, c2, c3⟩ := hgo
            have HO := Lib.hid hok
            have Hgr := Lib.hid hgr
            clear hok hgr
            obtain ⟨a1, a2, a3, a4, a5, a6⟩ := a
            obtain ⟨b1, b2, b3, b4, b5, b6⟩ := b
            obtain ⟨d1, d2, d3⟩ := hbd.out
            have hk60 : (k : Int) ≤ 60 := by omega
            have e9 : ga * r.rhigh * (10000 + r.pull * gc) + 10000 - 1 = ga * r.rhigh * (10000 + r.pull * gc) + 9999 := by omega
            rw [e9] at c2 c3
            obtain ⟨P, hP⟩ : ∃ P, ga * r.rlow * (10000 + r.pull * gb) / 10000 = P := ⟨_, rfl⟩
            obtain ⟨Q, hQ⟩ : ∃ Q, (ga * r.rhigh * (10000 + r.pull * gc) + 9999) / 10000 = Q := ⟨_, rfl⟩
            rw [hP] at c1 c2
            rw [hQ] at c2 c3
            have hsum : sumR ((gs.take (k + 1)).map (giveR r)) = ⟨x + P, y + Q⟩ := by
              rw [Htk.out, List.map_append]
              show sumR (_ ++ [giveR r ⟨ga, gb, gc⟩]) = _
              rw [sumR_app, hS.out, Hgr.out, e9, hP, hQ]
            have x1 : wrap64 (ga * r.rlow) = ga * r.rlow := IntWalk.wrap64_in _ ⟨by omega, by omega⟩
            have x2 : wrap64 (r.pull * gb) = r.pull * gb := IntWalk.wrap64_in _ ⟨by omega, by omega⟩
            have x3 : wrap64 (10000 + r.pull * gb) = 10000 + r.pull * gb := IntWalk.wrap64_in _ ⟨by omega, by omega⟩
            have x4 : wrap64 (ga * r.rlow * (10000 + r.pull * gb)) = ga * r.rlow * (10000 + r.pull * gb) := IntWalk.wrap64_in _ ⟨by omega, by omega⟩
            have y1 : wrap64 (ga * r.rhigh) = ga * r.rhigh := IntWalk.wrap64_in _ ⟨by omega, by omega⟩
            have y2 : wrap64 (r.pull * gc) = r.pull * gc := IntWalk.wrap64_in _ ⟨by omega, by omega⟩
            have y3 : wrap64 (10000 + r.pull * gc) = 10000 + r.pull * gc := IntWalk.wrap64_in _ ⟨by omega, by omega⟩
            have y4 : wrap64 (ga * r.rhigh * (10000 + r.pull * gc)) = ga * r.rhigh * (10000 + r.pull * gc) := IntWalk.wrap64_in _ ⟨by omega, by omega⟩
            have y5 : wrap64 (ga * r.rhigh * (10000 + r.pull * gc) + 9999) = ga * r.rhigh * (10000 + r.pull * gc) + 9999 := IntWalk.wrap64_in _ ⟨by omega, by omega⟩
            have y7 : 0 ≤ ga * r.rhigh * (10000 + r.pull * gc) + 9999 := by omega
            have x8 : wrap64 (x + wrap64 ((ga * r.rlow * (10000 + r.pull * gb)).tdiv 10000)) = x + P := by rw [Int.tdiv_eq_ediv_of_nonneg a5, hP, IntWalk.wrap64_in P ⟨by omega, by omega⟩]; exact IntWalk.wrap64_in _ ⟨by omega, by omega⟩
            have y8 : wrap64 (y + wrap64 ((ga * r.rhigh * (10000 + r.pull * gc) + 9999).tdiv 10000)) = y + Q := by rw [Int.tdiv_eq_ediv_of_nonneg y7, hQ, IntWalk.wrap64_in Q ⟨by omega, by omega⟩]; exact IntWalk.wrap64_in _ ⟨by omega, by omega⟩
            have Hsum := Lib.hid hsum
            have hbd2 : Aside (0 ≤ x + P ∧ x + P ≤ y + Q ∧ y + Q ≤ 10100000000 * ((k + 1 : Nat) : Int)) := ⟨by omega, by omega, by push_cast; omega⟩
            clear hsum hbd hS d1 d2 d3 c1 c2 c3 a2 a4 a6 b2 b4 b6 e9 hP hQ
            go_wp2_with fail
            refine (hw _).mono ?_
            rintro e w3 ⟨rfl, hb3⟩
            have hz3 := hb3.size
            simp only [World.size_alloc] at hz3
            have f7 := (hb3.cell (p := ⟨w.heap.size, 7, none⟩) (by show w.heap.size < _; simp; omega)).trans (al_cell _ q7)
            have f8 := (hb3.cell (p := ⟨w.heap.size, 8, none⟩) (by show w.heap.size < _; simp; omega)).trans (al_cell _ q8)
            have f9 := (hb3.cell (p := ⟨w.heap.size, 9, none⟩) (by show w.heap.size < _; simp; omega)).trans (al_cell _ q9)
            have t0 := (hb3.cell (p := ⟨wr.heap.size, 0, none⟩) (by show wr.heap.size < _; simp)).trans (show _ = some (.int .i64 ga) by simp [go_sem])
            have t1 := (hb3.cell (p := ⟨wr.heap.size, 1, none⟩) (by show wr.heap.size < _; simp)).trans (show _ = some (.int .i64 gb) by simp [go_sem])
            have t2 := (hb3.cell (p := ⟨wr.heap.size, 2, none⟩) (by show wr.heap.size < _; simp)).trans (show _ = some (.int .i64 gc) by simp [go_sem])
            go_wp2
            go_roundg (n - (k + 1))
            case measure => omega
            case rel =>
              refine ⟨k + 1, x + P, y + Q, by omega, by omega, by first | rfl | (simp [x8]), by first | rfl | (simp [y8]), by go_num, fun g hg => ?_, Hsum.out, hbd2, (hB.out.trans (((Below.refl wr.heap.size wr).alloc (Nat.le_refl _) _).mono hbs)).trans (hb3.mono (by simp; omega))⟩
              rw [Htk.out] at hg
              rcases List.mem_append.1 hg with hg | hg
              · exact hA.out g hg
              · obtain rfl := List.mem_singleton.1 hg; exact HO.out
        · have hltz : ¬ (k : Int) < (n : Int) := by omega
          obtain rfl : k = n := by omega
          have hall := hA.out
          have htk : gs.take k = gs := List.take_of_length_le (by have := hn.out; omega)
          rw [htk] at hall hS
          have hao : gs.all okG = true := List.all_eq_true.2 hall
          have her : er = 0 := by rw [He.out, hao]; rfl
          subst her
          have hres : sumR (gs.map (giveR r)) = res := HRes.out
          rw [hS.out] at hres
          subst hres
          clear hall htk hao hS hbd
          go_wp2
          refine bodyPost_ret (v := .tuple #[.agg #[.int .i64 x, .int .i64 y], .int .i64 0]) (by simp [results, Try.results50, go_sem, u0, u1, hlr2]) rfl ⟨rfl, (by (try show Below _ _ _); repeat (first | (with_reducible refine Below.setCell ?_ (by first | omega | (simp <;> omega)) _) | (with_reducible refine Below.alloc ?_ (by first | omega | (simp <;> omega)) _) | (with_reducible refine Below.drew ?_) | (with_reducible exact Below.refl _ _) | (with_reducible exact hB1) | (with_reducible refine below_call ?_ (by assumption) (by first | omega | (simp <;> omega))) | (with_reducible refine below_call ?_ (Drew.below (by assumption) _) (by first | omega | (simp <;> omega)))))⟩

end Go.Proofs.Ytlkecgjpmnganaa
