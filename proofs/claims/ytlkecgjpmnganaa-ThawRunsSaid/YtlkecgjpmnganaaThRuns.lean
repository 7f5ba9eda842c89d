/- Contracts: Runs. -/
import Derived.Test.YtlkecgjpmnganaaThSets
set_option linter.unusedSimpArgs false
set_option linter.unusedVariables false
namespace Go.Proofs.Ytlkecgjpmnganaa
open Go.RowKit Go.Shelf




theorem rep_some {o : Option (Int × Int)} {D : Int → Prop} (h : Rep1 o D) (hn : ∃ n, D n) : ∃ x y, o = some (x, y) := by
  obtain ⟨n, hn⟩ := hn
  rcases o with _ | ⟨x, y⟩
  · exact absurd hn (h n)
  · exact ⟨x, y, rfl⟩

/-- behind Runs -/
def RunsPost (w : World) (er : Int) (D : Int → Prop) (e : Ending) (w' : World) : Prop := ∃ x y : Int, e = .returned (.tuple #[.agg #[.int .i64 x, .int .i64 y], .int .i64 er]) ∧ (er ≠ 0 → x = 0 ∧ y = 0) ∧ (er = 0 → Rep1 (some (x, y)) D) ∧ Below w.heap.size w w'

set_option maxRecDepth 100000 in
set_option maxHeartbeats 1000000 in
theorem runs_any (r : TR) (c i : Int) (lo : Nat) (A : Option Addr) (n cc : Nat) (ts : List R) (w : World) (hx : Ranges w lo A ts) (hn : Aside (ts.length = n)) (hl : n ≤ maxLen) :
    Calls Try.prog 29 #[rV r, .agg #[.int .i64 c, .int .i64 i], .slice A n cc] w (RunsPost w (errT r c i ts) (anyC (thruC r (ts.map pr) (oneC (c, i))))) := by
  have h1 := fun (W : World) (hb : Below w.heap.size w W) => check_any r c i lo A n cc ts W (hx.below hb (Nat.le_refl _)) hn hl
  have hrv : rV r = .agg #[.int .i64 r.frost, .int .i64 r.thaw, .int .i64 r.gain, .int .i64 r.full, .int .i64 r.ice, .int .i64 r.most, .int .i64 r.melt, .int .i64 r.rlow, .int .i64 r.rhigh, .int .i64 r.pull] := rfl
  by_cases h0 : errT r c i ts = 0
  · obtain ⟨hr, hst, hlen, hok⟩ := errT_ok h0
    rw [h0] at h1 ⊢
    obtain ⟨c, i, hc, hi, e⟩ := in_nat hr hst
    obtain ⟨rfl, rfl⟩ := Prod.mk.inj e
    have hT := fun b G C (B : Int) W h1 h2 h3 h4 h5 h6 h7 => through_any r hr b G C lo A n cc ts B W h1 h2 h3 h4 h5 h6 hn h7 (by have := hn.out; omega)
    rw [hrv] at h1 hT ⊢
    have HX : Aside (Ranges w lo A ts) := hx
    have hsome := thruC_some hr (ts.map pr) (okT_all hok) (C := oneC ((c : Int), (i : Int))) ⟨0, _, rfl, rfl⟩
    have hin0 := oneC_in hst
    have hin1 := thruC_in hr (ts.map pr) hin0
    have HS := Lib.hid hsome
    have hn9 : (0 : Int) + n ≤ 100000 := by have := hn.out; omega
    clear hx hok hsome h0 e
    go_enter Try.func29, Try.ntmps29
    go_wp2_with fail
    refine Calls.mono (h1 _ ?_) ?_
    · exact (by (try show Below _ _ _); repeat (first | (with_reducible refine Below.setCell ?_ (by first | omega | (simp <;> omega)) _) | (with_reducible refine Below.alloc ?_ (by first | omega | (simp <;> omega)) _) | (with_reducible refine Below.drew ?_) | (with_reducible exact Below.refl _ _) | (with_reducible refine below_call ?_ (by assumption) (by first | omega | (simp <;> omega))) | (with_reducible refine below_call ?_ (Drew.below (by assumption) _) (by first | omega | (simp <;> omega)))))
    rintro e w1 ⟨rfl, hb1⟩
    have hz1 := hb1.size
    simp only [World.size_alloc] at hz1
    have q0 := (hb1.cell (p := ⟨w.heap.size, 0, none⟩) (by show w.heap.size < _; simp; omega)).trans (show _ = some (.int .i64 r.frost) by simp [go_sem])
    have q1 := (hb1.cell (p := ⟨w.heap.size, 1, none⟩) (by show w.heap.size < _; simp; omega)).trans (show _ = some (.int .i64 r.thaw) by simp [go_sem])
    have q2 := (hb1.cell (p := ⟨w.heap.size, 2, none⟩) (by show w.heap.size < _; simp; omega)).trans (show _ = some (.int .i64 r.gain) by simp [go_sem])
    have q3 := (hb1.cell (p := ⟨w.heap.size, 3, none⟩) (by show w.heap.size < _; simp; omega)).trans (show _ = some (.int .i64 r.full) by simp [go_sem])
    have q4 := (hb1.cell (p := ⟨w.heap.size, 4, none⟩) (by show w.heap.size < _; simp; omega)).trans (show _ = some (.int .i64 r.ice) by simp [go_sem])
    have q5 := (hb1.cell (p := ⟨w.heap.size, 5, none⟩) (by show w.heap.size < _; simp; omega)).trans (show _ = some (.int .i64 r.most) by simp [go_sem])
    have q6 := (hb1.cell (p := ⟨w.heap.size, 6, none⟩) (by show w.heap.size < _; simp; omega)).trans (show _ = some (.int .i64 r.melt) by simp [go_sem])
    have q7 := (hb1.cell (p := ⟨w.heap.size, 7, none⟩) (by show w.heap.size < _; simp; omega)).trans (show _ = some (.int .i64 r.rlow) by simp [go_sem])
    have q8 := (hb1.cell (p := ⟨w.heap.size, 8, none⟩) (by show w.heap.size < _; simp; omega)).trans (show _ = some (.int .i64 r.rhigh) by simp [go_sem])
    have q9 := (hb1.cell (p := ⟨w.heap.size, 9, none⟩) (by show w.heap.size < _; simp; omega)).trans (show _ = some (.int .i64 r.pull) by simp [go_sem])
    have s0 := (hb1.cell (p := ⟨w.heap.size + 1, 0, none⟩) (by show w.heap.size + 1 < _; simp)).trans (show _ = some (.int .i64 (c : Int)) by simp [go_sem])
    have s1 := (hb1.cell (p := ⟨w.heap.size + 1, 1, none⟩) (by show w.heap.size + 1 < _; simp)).trans (show _ = some (.int .i64 (i : Int)) by simp [go_sem])
    have u0 := (hb1.cell (p := ⟨w.heap.size + 1 + 1, 0, none⟩) (by show w.heap.size + 1 + 1 < _; simp)).trans (show _ = some (.int .i64 0) by simp [go_sem])
    have u1 := (hb1.cell (p := ⟨w.heap.size + 1 + 1, 1, none⟩) (by show w.heap.size + 1 + 1 < _; simp)).trans (show _ = some (.int .i64 0) by simp [go_sem])
    have v0 := (hb1.frozen (p := ⟨w.heap.size + 1 + 1, 0, none⟩) (by show w.heap.size + 1 + 1 < _; simp)).trans (show _ = false by simp [go_sem])
    have v1 := (hb1.frozen (p := ⟨w.heap.size + 1 + 1, 1, none⟩) (by show w.heap.size + 1 + 1 < _; simp)).trans (show _ = false by simp [go_sem])
    have hB1 : Below w.heap.size w w1 := (by (try show Below _ _ _); repeat (first | (with_reducible refine Below.setCell ?_ (by first | omega | (simp <;> omega)) _) | (with_reducible refine Below.alloc ?_ (by first | omega | (simp <;> omega)) _) | (with_reducible refine Below.drew ?_) | (with_reducible exact Below.refl _ _) | (with_reducible refine below_call ?_ (by assumption) (by first | omega | (simp <;> omega))) | (with_reducible refine below_call ?_ (Drew.below (by assumption) _) (by first | omega | (simp <;> omega)))))
    have hB1d : Below w.heap.size w w1.drew := hB1.drew
    go_wp2_with fail
    have hAll : Aside (∀ W, w1.grownBy W (some (w.heap.size + 1 + 1)) → (w1.grownBy W (some (w.heap.size + 1 + 1)) ∧ W.cell? ⟨w.heap.size, 0, none⟩ = some (.int .i64 r.frost) ∧ W.cell? ⟨w.heap.size, 1, none⟩ = some (.int .i64 r.thaw) ∧ W.cell? ⟨w.heap.size, 2, none⟩ = some (.int .i64 r.gain) ∧ W.cell? ⟨w.heap.size, 3, none⟩ = some (.int .i64 r.full) ∧ W.cell? ⟨w.heap.size, 4, none⟩ = some (.int .i64 r.ice) ∧ W.cell? ⟨w.heap.size, 5, none⟩ = some (.int .i64 r.most) ∧ W.cell? ⟨w.heap.size, 6, none⟩ = some (.int .i64 r.melt) ∧ W.cell? ⟨w.heap.size, 7, none⟩ = some (.int .i64 r.rlow) ∧ W.cell? ⟨w.heap.size, 8, none⟩ = some (.int .i64 r.rhigh) ∧ W.cell? ⟨w.heap.size, 9, none⟩ = some (.int .i64 r.pull) ∧ W.cell? ⟨w.heap.size + 1, 0, none⟩ = some (.int .i64 (c : Int)) ∧ W.cell? ⟨w.heap.size + 1, 1, none⟩ = some (.int .i64 (i : Int)))) := fun W h => ⟨h, gcell h q0 (by omega), gcell h q1 (by omega), gcell h q2 (by omega), gcell h q3 (by omega), gcell h q4 (by omega), gcell h q5 (by omega), gcell h q6 (by omega), gcell h q7 (by omega), gcell h q8 (by omega), gcell h q9 (by omega), gcell h s0 (by omega), gcell h s1 (by omega)⟩
    refine wp_region_held_drew (S := fun W => w1.grownBy W (some (w.heap.size + 1 + 1)) ∧ W.cell? ⟨w.heap.size, 0, none⟩ = some (.int .i64 r.frost) ∧ W.cell? ⟨w.heap.size, 1, none⟩ = some (.int .i64 r.thaw) ∧ W.cell? ⟨w.heap.size, 2, none⟩ = some (.int .i64 r.gain) ∧ W.cell? ⟨w.heap.size, 3, none⟩ = some (.int .i64 r.full) ∧ W.cell? ⟨w.heap.size, 4, none⟩ = some (.int .i64 r.ice) ∧ W.cell? ⟨w.heap.size, 5, none⟩ = some (.int .i64 r.most) ∧ W.cell? ⟨w.heap.size, 6, none⟩ = some (.int .i64 r.melt) ∧ W.cell? ⟨w.heap.size, 7, none⟩ = some (.int .i64 r.rlow) ∧ W.cell? ⟨w.heap.size, 8, none⟩ = some (.int .i64 r.rhigh) ∧ W.cell? ⟨w.heap.size, 9, none⟩ = some (.int .i64 r.pull) ∧ W.cell? ⟨w.heap.size + 1, 0, none⟩ = some (.int .i64 (c : Int)) ∧ W.cell? ⟨w.heap.size + 1, 1, none⟩ = some (.int .i64 (i : Int))) (by kernel_rfl) (hAll.out _ (grown_drew _ _)) (fun hS0 => ?_)
    (try go_simp)
    refine wpAnyH_take (i := 0) (v := ?_) rfl (by kernel_rfl) (by kernel_rfl) (by kernel_rfl) (fun _ _ _ h => h) (Or.inl ⟨by rfl, ?_⟩) hS0 ?_
    rotate_left
    · (intro W hSw; (try dsimp only at hSw); go_split_ands; go_simp; (try with_reducible rfl))
    (try go_simp)
    (try go_simp)
    refine wpAnyH_take (i := 1) (v := ?_) rfl (by kernel_rfl) (by kernel_rfl) (by kernel_rfl) (fun _ _ _ h => h) (Or.inl ⟨by rfl, ?_⟩) hS0 ?_
    rotate_left
    · (intro W hSw; (try dsimp only at hSw); go_split_ands; go_simp; (try with_reducible rfl))
    (try go_simp)
    (try go_simp)
    refine wpAnyH_take (i := 2) (v := ?_) rfl (by kernel_rfl) (by kernel_rfl) (by kernel_rfl) (fun _ _ _ h => h) (Or.inl ⟨by rfl, ?_⟩) hS0 ?_
    rotate_left
    · (intro W hSw; (try dsimp only at hSw); go_split_ands; go_simp; (try with_reducible rfl))
    (try go_simp)
    (try go_simp)
    refine wpAnyH_take (i := 4) (v := ?_) rfl (by kernel_rfl) (by kernel_rfl) (by kernel_rfl) (fun _ _ _ h => h) (Or.inl ⟨by rfl, ?_⟩) hS0 ?_
    rotate_left
    · (intro W hSw; (try dsimp only at hSw); go_split_ands; go_simp; (try with_reducible rfl))
    (try go_simp)
    refine wpAnyH_ready (rs := [3]) (by kernel_rfl) (by simp) ?_
    refine (AllReadyH.cons rfl (fun K hK => ?_) AllReadyH.nil)
    go_simp
    go_wp2_with (go_at_call 65; refine (from_any c i (by omega) (by omega) _).mono ?_; rintro e w3 ⟨b3, rfl, hb3a, hb3b, hF3, hV3, hb3⟩; have g3 : w1.grownBy w3 (some (w.heap.size + 1 + 1)) := grown_below (grown_drew w1 _) hb3; have hBw3 : Below w.heap.size w w3 := hB1d.trans (hb3.mono (by show w.heap.size ≤ w1.heap.size; omega)))
    refine hK.out _ _ (hAll.out _ g3) (fun hS1 => ?_)
    clear hK K
    (try go_simp)
    refine wpAnyH_ready (rs := [5]) (by kernel_rfl) (by simp) ?_
    refine (AllReadyH.cons rfl (fun K hK => ?_) AllReadyH.nil)
    go_simp
    go_wp2_with (go_at_call 64; refine (hT b3 _ _ 0 _ hb3b hF3 (one_rep _) hin0 (oneC_bd _) (HX.out.below hBw3 (Nat.le_refl _)) hn9).mono ?_; rintro e w5 ⟨b5, G5, rfl, hb5b, hF5, hR5, hb5⟩; have g5 : w1.grownBy w5 (some (w.heap.size + 1 + 1)) := grown_below g3 (hb5.mono g3.size))
    refine hK.out _ _ (hAll.out _ g5) (fun hS2 => ?_)
    clear hK K
    (try go_simp)
    refine wpAnyH_ready (rs := [6]) (by kernel_rfl) (by simp) ?_
    refine (AllReadyH.cons rfl (fun K hK => ?_) AllReadyH.nil)
    go_simp
    go_wp2_with (go_at_call 66; refine (all_any b5 G5 _ hb5b hF5).mono ?_; rintro e w6 ⟨rfl, hb6⟩; have g6 : w1.grownBy w6 (some (w.heap.size + 1 + 1)) := grown_below g5 (hb6.mono g5.size); have hall := all_rep hr hR5 hin1; obtain ⟨x, y, hxy⟩ := rep_some hall HS.out; rw [hxy] at hall ⊢; have Hall := Lib.hid hall; clear hall hxy)
    refine hK.out _ _ (hAll.out _ g6) (fun hS3 => ?_)
    clear hK K
    (try go_simp)
    refine wpAnyH_ready (rs := [7]) (by kernel_rfl) (by simp) ?_
    refine (AllReadyH.cons rfl (fun K hK => ?_) AllReadyH.nil)
    go_simp
    go_wp2_with (go_at_call 67; refine (hours_any (some (x, y)) _).mono ?_; rintro e w7 ⟨rfl, hb7⟩; have g7 : w1.grownBy w7 (some (w.heap.size + 1 + 1)) := grown_below g6 (hb7.mono g6.size); simp only [fC])
    refine hK.out _ _ (hAll.out _ g7) (fun hS4 => ?_)
    clear hK K
    (try go_simp)
    refine wpAnyH_ready (rs := [8]) (by kernel_rfl) (by simp) ?_
    refine (AllReadyH.cons rfl (fun K hK => ?_) AllReadyH.nil)
    go_simp
    have z7 := g7.size
    have z3 := g3.size
    have b37 : Below w3.heap.size w3 w7 := (hb5.trans ((hb6.mono (Below.size hb5)).trans (hb7.mono (Nat.le_trans (Below.size hb5) (Below.size hb6)))))
    have t0 := (b37.cell (p := ⟨w.heap.size + 1 + 1, 0, none⟩) (by show w.heap.size + 1 + 1 < _; omega)).trans ((hb3.cell (p := ⟨w.heap.size + 1 + 1, 0, none⟩) (by show w.heap.size + 1 + 1 < w1.heap.size; omega)).trans u0)
    have t1 := (b37.cell (p := ⟨w.heap.size + 1 + 1, 1, none⟩) (by show w.heap.size + 1 + 1 < _; omega)).trans ((hb3.cell (p := ⟨w.heap.size + 1 + 1, 1, none⟩) (by show w.heap.size + 1 + 1 < w1.heap.size; omega)).trans u1)
    have f0 := (b37.frozen (p := ⟨w.heap.size + 1 + 1, 0, none⟩) (by show w.heap.size + 1 + 1 < _; omega)).trans ((hb3.frozen (p := ⟨w.heap.size + 1 + 1, 0, none⟩) (by show w.heap.size + 1 + 1 < w1.heap.size; omega)).trans v0)
    have f1 := (b37.frozen (p := ⟨w.heap.size + 1 + 1, 1, none⟩) (by show w.heap.size + 1 + 1 < _; omega)).trans ((hb3.frozen (p := ⟨w.heap.size + 1 + 1, 1, none⟩) (by show w.heap.size + 1 + 1 < w1.heap.size; omega)).trans v1)
    go_simp
    have g8 : w1.grownBy ((w7.setCell ⟨w.heap.size + 1 + 1, 0, none⟩ (.int .i64 x)).setCell ⟨w.heap.size + 1 + 1, 1, none⟩ (.int .i64 y)) (some (w.heap.size + 1 + 1)) := grown_tr (grown_tr g7 (grown_set _ _ _ _) (fun r e => Or.inr (by cases e; rfl))) (grown_set _ _ _ _) (fun r e => Or.inr (by cases e; rfl))
    refine hK.out _ _ (hAll.out _ g8) (fun hS5 => ?_)
    clear hK K
    (try go_simp)
    (try go_simp)
    refine wpAnyH_take (i := 9) (v := ?_) rfl (by kernel_rfl) (by kernel_rfl) (by kernel_rfl) (fun _ _ _ h => h) (Or.inl ⟨by rfl, ?_⟩) hS5 ?_
    rotate_left
    · (intro W hSw; (try dsimp only at hSw); go_split_ands; go_simp; (try with_reducible rfl))
    (try go_simp)
    refine wpAnyH_done (by kernel_rfl) ?_ _
    go_wp2
    refine bodyPost_ret (v := .tuple #[.agg #[.int .i64 x, .int .i64 y], .int .i64 0]) (by simp [results, Try.results29, go_sem, t0, t1]) rfl ⟨x, y, rfl, fun h => absurd rfl h, fun _ => Hall.out, ?_⟩
    exact hB1.trans ((Below.refl _ w1).grown g8 (by omega) (fun k e => by cases e; omega))
  · rw [hrv] at h1 ⊢
    generalize errT r c i ts = er at h0 h1
    have h0' : (er == 0) = false := by simpa using h0
    clear hx hrv
    go_enter Try.func29, Try.ntmps29
    go_wp2_with fail
    refine Calls.mono (h1 _ ?_) ?_
    · exact (by (try show Below _ _ _); repeat (first | (with_reducible refine Below.setCell ?_ (by first | omega | (simp <;> omega)) _) | (with_reducible refine Below.alloc ?_ (by first | omega | (simp <;> omega)) _) | (with_reducible refine Below.drew ?_) | (with_reducible exact Below.refl _ _) | (with_reducible refine below_call ?_ (by assumption) (by first | omega | (simp <;> omega))) | (with_reducible refine below_call ?_ (Drew.below (by assumption) _) (by first | omega | (simp <;> omega)))))
    rintro e w1 ⟨rfl, hb1⟩
    have hz1 := hb1.size
    simp only [World.size_alloc] at hz1
    have u0 := (hb1.cell (p := ⟨w.heap.size + 1 + 1, 0, none⟩) (by show w.heap.size + 1 + 1 < _; simp)).trans (show _ = some (.int .i64 0) by simp [go_sem])
    have u1 := (hb1.cell (p := ⟨w.heap.size + 1 + 1, 1, none⟩) (by show w.heap.size + 1 + 1 < _; simp)).trans (show _ = some (.int .i64 0) by simp [go_sem])
    have v0 := (hb1.frozen (p := ⟨w.heap.size + 1 + 1, 0, none⟩) (by show w.heap.size + 1 + 1 < _; simp)).trans (show _ = false by simp [go_sem])
    have v1 := (hb1.frozen (p := ⟨w.heap.size + 1 + 1, 1, none⟩) (by show w.heap.size + 1 + 1 < _; simp)).trans (show _ = false by simp [go_sem])
    have hB1 : Below w.heap.size w w1 := (by (try show Below _ _ _); repeat (first | (with_reducible refine Below.setCell ?_ (by first | omega | (simp <;> omega)) _) | (with_reducible refine Below.alloc ?_ (by first | omega | (simp <;> omega)) _) | (with_reducible refine Below.drew ?_) | (with_reducible exact Below.refl _ _) | (with_reducible refine below_call ?_ (by assumption) (by first | omega | (simp <;> omega))) | (with_reducible refine below_call ?_ (Drew.below (by assumption) _) (by first | omega | (simp <;> omega)))))
    go_wp2
    refine bodyPost_ret (v := .tuple #[.agg #[.int .i64 0, .int .i64 0], .int .i64 er]) (by simp [results, Try.results29, go_sem, u0, u1]) rfl ⟨0, 0, rfl, fun _ => ⟨rfl, rfl⟩, fun h => absurd h h0, (by (try show Below _ _ _); repeat (first | (with_reducible refine Below.setCell ?_ (by first | omega | (simp <;> omega)) _) | (with_reducible refine Below.alloc ?_ (by first | omega | (simp <;> omega)) _) | (with_reducible refine Below.drew ?_) | (with_reducible exact Below.refl _ _) | (with_reducible exact hB1) | (with_reducible refine below_call ?_ (by assumption) (by first | omega | (simp <;> omega))) | (with_reducible refine below_call ?_ (Drew.below (by assumption) _) (by first | omega | (simp <;> omega)))))⟩


end Go.Proofs.Ytlkecgjpmnganaa
