/- Contracts: thaw.Crop. -/
import Derived.Test.YtlkecgjpmnganaaThGives3
import Derived.Test.YtlkecgjpmnganaaThTimes
import Derived.Outline
import Derived.StillTailTactics
set_option linter.unusedSimpArgs false
set_option linter.unusedVariables false
namespace Go.Proofs.Ytlkecgjpmnganaa
open Go.RowKit Go.Shelf

theorem sum_bd {r : TR} (hr : TROk r) (gs : List Gp) (hall : ∀ g ∈ gs, okG g = true) : 0 ≤ (sumR (gs.map (giveR r))).lo ∧ (sumR (gs.map (giveR r))).lo ≤ (sumR (gs.map (giveR r))).hi ∧ (sumR (gs.map (giveR r))).hi ≤ 10100000000 * gs.length := by
  have key : ∀ k, k ≤ gs.length → 0 ≤ (sumR ((gs.take k).map (giveR r))).lo ∧ (sumR ((gs.take k).map (giveR r))).lo ≤ (sumR ((gs.take k).map (giveR r))).hi ∧ (sumR ((gs.take k).map (giveR r))).hi ≤ 10100000000 * (k : Int) := by
    intro k
    induction k with
    | zero => intro _; simp [sumR]
    | succ k ih =>
      intro hk
      have i := ih (by omega)
      have hg := giveR_ok hr (hall _ (List.getElem_mem (show k < gs.length by omega)))
      rw [List.take_succ_eq_append_getElem (by omega), List.map_append]
      show 0 ≤ (sumR (_ ++ [giveR r gs[k]])).lo ∧ _
      rw [show (gs.take k).map (giveR r) ++ [gs[k]].map (giveR r) = (gs.take k).map (giveR r) ++ [giveR r gs[k]] from rfl, sumR_app]
      simp only
      push_cast
      omega
  have := key gs.length (Nat.le_refl _)
  rwa [List.take_length] at this

def okH (lo hi : Int) : Bool := decide (lo ≤ hi) && btw 0 1000 [lo, hi]
def cropS (er : Int) (x : R) (lo hi : Int) : R × Int := if er = 0 then (if okH lo hi then (⟨x.lo * lo, x.hi * hi⟩, 0) else (R.d, 3)) else (R.d, er)

set_option maxRecDepth 100000 in
set_option maxHeartbeats 2000000 in
theorem crop_any (r : TR) (lo : Nat) (A : Option Addr) (n cc : Nat) (gs : List Gp) (h0 h1 : Int) (w : World) (hx : gpL.at w lo A gs) (hn : Aside (gs.length = n)) (hl : n ≤ maxLen) :
    Calls Try.prog 48 #[rV r, .slice A n cc, .agg #[.int .i64 h0, .int .i64 h1]] w (GivesPost w (cropS (errG r gs) (sumR (gs.map (giveR r))) h0 h1).2 (cropS (errG r gs) (sumR (gs.map (giveR r))) h0 h1).1) := by
  have hG := fun (W : World) (hb : Below w.heap.size w W) => gives_any r lo A n cc gs W (Lay.at_below hx hb (Nat.le_refl _)) hn hl
  have hI := fun (W : World) => thaw_isRange h0 h1 0 1000 W
  have hT : errG r gs = 0 → okH h0 h1 = true → timesS ⟨(sumR (gs.map (giveR r))).lo, (sumR (gs.map (giveR r))).hi⟩ ⟨h0, h1⟩ = (⟨(sumR (gs.map (giveR r))).lo * h0, (sumR (gs.map (giveR r))).hi * h1⟩, 0) := by
    intro he hok
    have hrr : okRules r = true := by
      cases h : okRules r with
      | true => rfl
      | false => unfold errG at he; rw [h] at he; simp at he
    have hlen : ¬ 60 < gs.length := by
      intro h
      unfold errG at he
      rw [hrr, if_pos h] at he
      simp at he
    have hall : gs.all okG = true := by
      cases h : gs.all okG with
      | true => rfl
      | false => unfold errG at he; rw [hrr, if_neg hlen, h] at he; simp at he
    have hb := sum_bd ((okRules_iff r).1 hrr) gs (fun g hg => List.all_eq_true.1 hall g hg)
    simp [okH, btw] at hok
    exact times_small hb.1 hb.2.1 (by omega) (by omega) (by omega) (by omega)
  have hrv : rV r = .agg #[.int .i64 r.frost, .int .i64 r.thaw, .int .i64 r.gain, .int .i64 r.full, .int .i64 r.ice, .int .i64 r.most, .int .i64 r.melt, .int .i64 r.rlow, .int .i64 r.rhigh, .int .i64 r.pull] := rfl
  rw [hrv] at hG ⊢
  unfold GivesPost at hG ⊢
  have hok : okH h0 h1 = (decide (h0 ≤ h1) && btw 0 1000 [h0, h1]) := rfl
  generalize (decide (h0 ≤ h1) && btw 0 1000 [h0, h1]) = p at hI hok
  generalize sumR (gs.map (giveR r)) = x at hG hT ⊢
  generalize errG r gs = er at hG hT ⊢
  clear hx hrv
  unfold cropS
  rw [hok] at hT ⊢
  clear hok
  by_cases he : er = 0
  · subst he
    rw [if_pos rfl]
    simp only [if_true] at hG
    cases p with
    | false =>
      simp only [Bool.false_eq_true, if_false]
      go_enter Try.func48, Try.ntmps48
      go_wp2_with fail
      refine Calls.mono (hG _ ?_) ?_
      · exact (by (try show Below _ _ _); repeat (first | (with_reducible refine Below.setCell ?_ (by first | omega | (simp <;> omega)) _) | (with_reducible refine Below.alloc ?_ (by first | omega | (simp <;> omega)) _) | (with_reducible refine Below.drew ?_) | (with_reducible exact Below.refl _ _) | (with_reducible refine below_call ?_ (by assumption) (by first | omega | (simp <;> omega))) | (with_reducible refine below_call ?_ (Drew.below (by assumption) _) (by first | omega | (simp <;> omega)))))
      rintro e w1 ⟨rfl, hb1⟩
      have hz1 := hb1.size
      simp only [World.size_alloc] at hz1
      have hl0 : w.heap.size < w1.heap.size := by omega
      have hl1 : w.heap.size + 1 < w1.heap.size := by omega
      have hl2 : w.heap.size + 1 + 1 < w1.heap.size := by omega
      have s0 := (hb1.cell (p := ⟨w.heap.size + 1, 0, none⟩) (by show w.heap.size + 1 < _; simp <;> omega)).trans (show _ = some (.int .i64 h0) by simp [go_sem])
      have s1 := (hb1.cell (p := ⟨w.heap.size + 1, 1, none⟩) (by show w.heap.size + 1 < _; simp <;> omega)).trans (show _ = some (.int .i64 h1) by simp [go_sem])
      have u0 := (hb1.cell (p := ⟨w.heap.size + 1 + 1, 0, none⟩) (by show w.heap.size + 1 + 1 < _; simp)).trans (show _ = some (.int .i64 0) by simp [go_sem])
      have u1 := (hb1.cell (p := ⟨w.heap.size + 1 + 1, 1, none⟩) (by show w.heap.size + 1 + 1 < _; simp)).trans (show _ = some (.int .i64 0) by simp [go_sem])
      have v0 := (hb1.frozen (p := ⟨w.heap.size + 1 + 1, 0, none⟩) (by show w.heap.size + 1 + 1 < _; simp)).trans (show _ = false by simp [go_sem])
      have v1 := (hb1.frozen (p := ⟨w.heap.size + 1 + 1, 1, none⟩) (by show w.heap.size + 1 + 1 < _; simp)).trans (show _ = false by simp [go_sem])
      have hB1 : Below w.heap.size w w1 := (by (try show Below _ _ _); repeat (first | (with_reducible refine Below.setCell ?_ (by first | omega | (simp <;> omega)) _) | (with_reducible refine Below.alloc ?_ (by first | omega | (simp <;> omega)) _) | (with_reducible refine Below.drew ?_) | (with_reducible exact Below.refl _ _) | (with_reducible exact hb1) | (with_reducible refine below_call ?_ (by assumption) (by first | omega | (simp <;> omega))) | (with_reducible refine below_call ?_ (Drew.below (by assumption) _) (by first | omega | (simp <;> omega)))))
      go_wp2_with fail
      refine (hI _).mono ?_
      rintro e w2 ⟨rfl, hb2⟩
      have hz2 := hb2.size
      simp only [World.size_alloc] at hz2
      have hT2 : Below w1.heap.size w1 w2 := ((Below.refl _ _).alloc (Nat.le_refl _) _).trans (hb2.mono (by simp))
      replace u0 := (hT2.cell (p := ⟨w.heap.size + 1 + 1, 0, none⟩) hl2).trans u0
      replace u1 := (hT2.cell (p := ⟨w.heap.size + 1 + 1, 1, none⟩) hl2).trans u1
      replace v0 := (hT2.frozen (p := ⟨w.heap.size + 1 + 1, 0, none⟩) hl2).trans v0
      replace v1 := (hT2.frozen (p := ⟨w.heap.size + 1 + 1, 1, none⟩) hl2).trans v1
      have hB2 : Below w.heap.size w w2 := hB1.trans (hT2.mono (by omega))
      have hl5 : w.heap.size + 1 + 1 < w2.heap.size := by omega
      go_wp2
      refine bodyPost_ret (v := .tuple #[.agg #[.int .i64 0, .int .i64 0], .int .i64 3]) (by simp [results, Try.results48, go_sem, u0, u1, hl5]) rfl ⟨rfl, (by (try show Below _ _ _); repeat (first | (with_reducible refine Below.setCell ?_ (by first | omega | (simp <;> omega)) _) | (with_reducible refine Below.alloc ?_ (by first | omega | (simp <;> omega)) _) | (with_reducible refine Below.drew ?_) | (with_reducible exact Below.refl _ _) | (with_reducible exact hB2) | (with_reducible refine below_call ?_ (by assumption) (by first | omega | (simp <;> omega))) | (with_reducible refine below_call ?_ (Drew.below (by assumption) _) (by first | omega | (simp <;> omega)))))⟩
    | true =>
      simp only [if_true]
      have hTT := fun W => Times_any x.lo x.hi h0 h1 W
      rw [hT rfl rfl] at hTT
      simp only [RE] at hTT
      go_enter Try.func48, Try.ntmps48
      go_wp2_with fail
      refine Calls.mono (hG _ ?_) ?_
      · exact (by (try show Below _ _ _); repeat (first | (with_reducible refine Below.setCell ?_ (by first | omega | (simp <;> omega)) _) | (with_reducible refine Below.alloc ?_ (by first | omega | (simp <;> omega)) _) | (with_reducible refine Below.drew ?_) | (with_reducible exact Below.refl _ _) | (with_reducible refine below_call ?_ (by assumption) (by first | omega | (simp <;> omega))) | (with_reducible refine below_call ?_ (Drew.below (by assumption) _) (by first | omega | (simp <;> omega)))))
      rintro e w1 ⟨rfl, hb1⟩
      have hz1 := hb1.size
      simp only [World.size_alloc] at hz1
      have hl0 : w.heap.size < w1.heap.size := by omega
      have hl1 : w.heap.size + 1 < w1.heap.size := by omega
      have hl2 : w.heap.size + 1 + 1 < w1.heap.size := by omega
      have s0 := (hb1.cell (p := ⟨w.heap.size + 1, 0, none⟩) (by show w.heap.size + 1 < _; simp <;> omega)).trans (show _ = some (.int .i64 h0) by simp [go_sem])
      have s1 := (hb1.cell (p := ⟨w.heap.size + 1, 1, none⟩) (by show w.heap.size + 1 < _; simp <;> omega)).trans (show _ = some (.int .i64 h1) by simp [go_sem])
      have u0 := (hb1.cell (p := ⟨w.heap.size + 1 + 1, 0, none⟩) (by show w.heap.size + 1 + 1 < _; simp)).trans (show _ = some (.int .i64 0) by simp [go_sem])
      have u1 := (hb1.cell (p := ⟨w.heap.size + 1 + 1, 1, none⟩) (by show w.heap.size + 1 + 1 < _; simp)).trans (show _ = some (.int .i64 0) by simp [go_sem])
      have v0 := (hb1.frozen (p := ⟨w.heap.size + 1 + 1, 0, none⟩) (by show w.heap.size + 1 + 1 < _; simp)).trans (show _ = false by simp [go_sem])
      have v1 := (hb1.frozen (p := ⟨w.heap.size + 1 + 1, 1, none⟩) (by show w.heap.size + 1 + 1 < _; simp)).trans (show _ = false by simp [go_sem])
      have hB1 : Below w.heap.size w w1 := (by (try show Below _ _ _); repeat (first | (with_reducible refine Below.setCell ?_ (by first | omega | (simp <;> omega)) _) | (with_reducible refine Below.alloc ?_ (by first | omega | (simp <;> omega)) _) | (with_reducible refine Below.drew ?_) | (with_reducible exact Below.refl _ _) | (with_reducible exact hb1) | (with_reducible refine below_call ?_ (by assumption) (by first | omega | (simp <;> omega))) | (with_reducible refine below_call ?_ (Drew.below (by assumption) _) (by first | omega | (simp <;> omega)))))
      go_wp2_with fail
      refine (hI _).mono ?_
      rintro e w2 ⟨rfl, hb2⟩
      have hz2 := hb2.size
      simp only [World.size_alloc] at hz2
      have hT2 : Below w1.heap.size w1 w2 := ((Below.refl _ _).alloc (Nat.le_refl _) _).trans (hb2.mono (by simp))
      have y0 := (hb2.cell (p := ⟨w1.heap.size, 0, none⟩) (by show w1.heap.size < _; simp)).trans (show _ = some (.int .i64 x.lo) by simp [go_sem])
      have y1 := (hb2.cell (p := ⟨w1.heap.size, 1, none⟩) (by show w1.heap.size < _; simp)).trans (show _ = some (.int .i64 x.hi) by simp [go_sem])
      replace s0 := (hT2.cell (p := ⟨w.heap.size + 1, 0, none⟩) hl1).trans s0
      replace s1 := (hT2.cell (p := ⟨w.heap.size + 1, 1, none⟩) hl1).trans s1
      replace u0 := (hT2.cell (p := ⟨w.heap.size + 1 + 1, 0, none⟩) hl2).trans u0
      replace u1 := (hT2.cell (p := ⟨w.heap.size + 1 + 1, 1, none⟩) hl2).trans u1
      replace v0 := (hT2.frozen (p := ⟨w.heap.size + 1 + 1, 0, none⟩) hl2).trans v0
      replace v1 := (hT2.frozen (p := ⟨w.heap.size + 1 + 1, 1, none⟩) hl2).trans v1
      have hB2 : Below w.heap.size w w2 := hB1.trans (hT2.mono (by omega))
      have hl5 : w.heap.size + 1 + 1 < w2.heap.size := by omega
      have hl6 : w.heap.size + 1 < w2.heap.size := by omega
      have hl7 : w1.heap.size < w2.heap.size := by omega
      go_wp2_with fail
      refine (hTT _).mono ?_
      rintro e w3 ⟨rfl, hb3⟩
      have hz3 := hb3.size
      replace u0 := (hb3.cell (p := ⟨w.heap.size + 1 + 1, 0, none⟩) hl5).trans u0
      replace u1 := (hb3.cell (p := ⟨w.heap.size + 1 + 1, 1, none⟩) hl5).trans u1
      replace v0 := (hb3.frozen (p := ⟨w.heap.size + 1 + 1, 0, none⟩) hl5).trans v0
      replace v1 := (hb3.frozen (p := ⟨w.heap.size + 1 + 1, 1, none⟩) hl5).trans v1
      have hB3 : Below w.heap.size w w3 := hB2.trans (hb3.mono (by omega))
      have hl8 : w.heap.size + 1 + 1 < w3.heap.size := by omega
      go_wp2
      refine bodyPost_ret (v := .tuple #[.agg #[.int .i64 (x.lo * h0), .int .i64 (x.hi * h1)], .int .i64 0]) (by simp [results, Try.results48, go_sem, u0, u1, hl8]) rfl ⟨rfl, (by (try show Below _ _ _); repeat (first | (with_reducible refine Below.setCell ?_ (by first | omega | (simp <;> omega)) _) | (with_reducible refine Below.alloc ?_ (by first | omega | (simp <;> omega)) _) | (with_reducible refine Below.drew ?_) | (with_reducible exact Below.refl _ _) | (with_reducible exact hB3) | (with_reducible refine below_call ?_ (by assumption) (by first | omega | (simp <;> omega))) | (with_reducible refine below_call ?_ (Drew.below (by assumption) _) (by first | omega | (simp <;> omega)))))⟩
  · rw [if_neg he]
    simp only [if_neg he] at hG
    go_enter Try.func48, Try.ntmps48
    go_wp2_with fail
    refine Calls.mono (hG _ ?_) ?_
    · exact (by (try show Below _ _ _); repeat (first | (with_reducible refine Below.setCell ?_ (by first | omega | (simp <;> omega)) _) | (with_reducible refine Below.alloc ?_ (by first | omega | (simp <;> omega)) _) | (with_reducible refine Below.drew ?_) | (with_reducible exact Below.refl _ _) | (with_reducible refine below_call ?_ (by assumption) (by first | omega | (simp <;> omega))) | (with_reducible refine below_call ?_ (Drew.below (by assumption) _) (by first | omega | (simp <;> omega)))))
    rintro e w1 ⟨rfl, hb1⟩
    have hz1 := hb1.size
    simp only [World.size_alloc] at hz1
    have hl0 : w.heap.size < w1.heap.size := by omega
    have hl1 : w.heap.size + 1 < w1.heap.size := by omega
    have hl2 : w.heap.size + 1 + 1 < w1.heap.size := by omega
    have s0 := (hb1.cell (p := ⟨w.heap.size + 1, 0, none⟩) (by show w.heap.size + 1 < _; simp <;> omega)).trans (show _ = some (.int .i64 h0) by simp [go_sem])
    have s1 := (hb1.cell (p := ⟨w.heap.size + 1, 1, none⟩) (by show w.heap.size + 1 < _; simp <;> omega)).trans (show _ = some (.int .i64 h1) by simp [go_sem])
    have u0 := (hb1.cell (p := ⟨w.heap.size + 1 + 1, 0, none⟩) (by show w.heap.size + 1 + 1 < _; simp)).trans (show _ = some (.int .i64 0) by simp [go_sem])
    have u1 := (hb1.cell (p := ⟨w.heap.size + 1 + 1, 1, none⟩) (by show w.heap.size + 1 + 1 < _; simp)).trans (show _ = some (.int .i64 0) by simp [go_sem])
    have v0 := (hb1.frozen (p := ⟨w.heap.size + 1 + 1, 0, none⟩) (by show w.heap.size + 1 + 1 < _; simp)).trans (show _ = false by simp [go_sem])
    have v1 := (hb1.frozen (p := ⟨w.heap.size + 1 + 1, 1, none⟩) (by show w.heap.size + 1 + 1 < _; simp)).trans (show _ = false by simp [go_sem])
    have hB1 : Below w.heap.size w w1 := (by (try show Below _ _ _); repeat (first | (with_reducible refine Below.setCell ?_ (by first | omega | (simp <;> omega)) _) | (with_reducible refine Below.alloc ?_ (by first | omega | (simp <;> omega)) _) | (with_reducible refine Below.drew ?_) | (with_reducible exact Below.refl _ _) | (with_reducible exact hb1) | (with_reducible refine below_call ?_ (by assumption) (by first | omega | (simp <;> omega))) | (with_reducible refine below_call ?_ (Drew.below (by assumption) _) (by first | omega | (simp <;> omega)))))
    go_wp2
    refine bodyPost_ret (v := .tuple #[.agg #[.int .i64 0, .int .i64 0], .int .i64 er]) (by simp [results, Try.results48, go_sem, u0, u1, hl2]) rfl ⟨rfl, (by (try show Below _ _ _); repeat (first | (with_reducible refine Below.setCell ?_ (by first | omega | (simp <;> omega)) _) | (with_reducible refine Below.alloc ?_ (by first | omega | (simp <;> omega)) _) | (with_reducible refine Below.drew ?_) | (with_reducible exact Below.refl _ _) | (with_reducible exact hB1) | (with_reducible refine below_call ?_ (by assumption) (by first | omega | (simp <;> omega))) | (with_reducible refine below_call ?_ (Drew.below (by assumption) _) (by first | omega | (simp <;> omega)))))⟩

end Go.Proofs.Ytlkecgjpmnganaa
