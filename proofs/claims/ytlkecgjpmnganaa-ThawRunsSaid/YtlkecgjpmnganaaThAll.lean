/- Contracts: all counts of a field together. -/
import Derived.Test.YtlkecgjpmnganaaThIter
set_option linter.unusedSimpArgs false
set_option linter.unusedVariables false
namespace Go.Proofs.Ytlkecgjpmnganaa
open Go.RowKit Go.Shelf
attribute [local go_sem] Oper.semAt_some

def Cnt (W : World) (b : Nat) (o : Option (Int × Int)) : Prop := W.cell? ⟨b, 0, none⟩ = some (fC o 0) ∧ W.cell? ⟨b, 1, none⟩ = some (fC o 1) ∧ W.cell? ⟨b, 2, none⟩ = some (fC o 2)

theorem blk_kept {W W' : World} {row : Option Nat} {b o : Nat} {v : Value} (h : W.cell? ⟨b, o, none⟩ = some v) (hg : W.grownBy W' row) (hr : ∀ r, row = some r → ∃ o : Obj, W.heap[r]? = some o ∧ o.isCells = false) : W'.heap[b]? = W.heap[b]? := by
  obtain ⟨x, hx, hc⟩ := cells_of_cell h
  exact grownBy_keeps_cells hg hr hx hc
theorem Turn.blk {B : Nat} {W W' : World} (ht : Turn B W W') {b o : Nat} {v : Value} (h : W.cell? ⟨b, o, none⟩ = some v) : W'.heap[b]? = W.heap[b]? := by
  obtain ⟨x, hx, hc⟩ := cells_of_cell h
  exact (ht.blocks b x hx hc).trans hx.symm

theorem KeepsFrom.of_below {B N : Nat} {W W' : World} (h : Below N W W') (hN : W.heap.size ≤ N) : KeepsFrom B W W' :=
  ⟨h.size, fun k o _ hk _ => (h.block k (Nat.lt_of_lt_of_le (Array.getElem?_eq_some_iff.1 hk).1 hN)).trans hk⟩
theorem al_cell {W : World} {p : Addr} {v : Value} (o : Obj) (h : W.cell? p = some v) : (W.alloc o).cell? p = some v := by
  obtain ⟨x, hx, _⟩ := cells_of_cell h
  exact (World.cell?_of_block (Below.heap_alloc W o _ (Array.getElem?_eq_some_iff.1 hx).1)).trans h

theorem Cnt.same {W W' : World} {b : Nat} {o : Option (Int × Int)} (h : Cnt W b o) (e : W'.heap[b]? = W.heap[b]?) : Cnt W' b o :=
  ⟨(World.cell?_of_block (a := ⟨b, 0, none⟩) e).trans h.1, (World.cell?_of_block (a := ⟨b, 1, none⟩) e).trans h.2.1, (World.cell?_of_block (a := ⟨b, 2, none⟩) e).trans h.2.2⟩
theorem Wri.same {W W' : World} {b : Nat} (h : Wri W b) (e : W'.heap[b]? = W.heap[b]?) : Wri W' b := fun o => (World.frozen?_of_block (a := ⟨b, o, none⟩) e).trans (h o)
theorem Fld.same {W W' : World} {b : Nat} {F : Fl} (h : Fld W b F) (e : W'.heap[b]? = W.heap[b]?) : Fld W' b F := fun c i k hc hi hk => (World.cell?_of_block (a := ⟨b, _, none⟩) e).trans (h c i k hc hi hk)

/-- a fence that lets all in, under a name -/
theorem some_wide : ∃ F : Fence, (∀ k, F.fn k) ∧ F.round = none ∧ Aside (F = Fence.wide) := ⟨Fence.wide, fun _ => trivial, rfl, rfl⟩
theorem wideC {F : Fence} (hF : Aside (F = Fence.wide)) {n : Nat} {P : Program} {f : FuncId} {args : Array Value} {w : World} {R : Ending → World → Prop} (h : Calls P f args w R) : CallsIn F n P f args w R := by
  rw [hF.out]; exact callsIn_wide.2 h

/-- all counts together -/
def sumC (l : List (St × (Int × Int))) : Option (Int × Int) := l.foldl (fun s x => withC s (some x.2)) none
theorem sumC_snoc (l : List (St × (Int × Int))) (x : St × (Int × Int)) : sumC (l ++ [x]) = withC (sumC l) (some x.2) := by simp [sumC]

theorem fC_one (o : Option (Int × Int)) (k : Nat) : (fC o k).oneCell' = true := by
  cases o <;> rcases k with _ | _ | k <;> rfl

theorem with_any' (o o' : Option (Int × Int)) (w : World) :
    Calls Try.prog 90 #[.agg #[fC o 0, fC o 1, fC o 2], .agg #[fC o' 0, fC o' 1, fC o' 2]] w fun e w' => e = .returned (.agg #[fC (withC o o') 0, fC (withC o o') 1, fC (withC o o') 2]) ∧ Below w.heap.size w w' := by
  rw [fC_three, fC_three, fC_three]
  exact with_any o o' w

set_option maxRecDepth 100000 in
set_option maxHeartbeats 2000000 in
theorem all_any (b : Nat) (G : Fl) (w : World) (hb : b < w.heap.size) (hG : Fld w b G) :
    Calls Try.prog 66 #[.pointer (some ⟨b, 0, none⟩)] w fun e w' => e = .returned (cV (sumC (come G 1891))) ∧ Below w.heap.size w w' := by
  refine (callsIn_wide (n := 5)).1 ?_
  obtain ⟨F, hFn, hro, hF⟩ := some_wide
  rw [← hF.out]
  obtain ⟨n, hn, h1⟩ : ∃ n : Nat, n = 5 ∧ 1 ≤ n - 1 - 1 := ⟨5, rfl, by omega⟩
  rw [← hn]
  have f1 := hFn 90
  refine callsIn_of_wp_marks Try.func66 rfl (hFn _) ?_ hro
  simp only [Try.ntmps66, List.size_toArray, List.length_cons, List.length_nil, Nat.reduceAdd, Nat.reduceSub, Array.replicate_succ, Array.replicate_zero, List.push_toArray, List.append_toArray, List.nil_append, List.cons_append]
  gi_wp2
  refine wpIn_range_all hro (by omega) (gf := 68) (fs := #[.pointer (some ⟨b, 0, none⟩)]) (lb := #[]) rfl (hFn _) (enters_of Try.func68 (by kernel_rfl) rfl)
    (states_gives F (n - 1) (hFn _) hro (by omega) b w.heap.size G _ hb (by simp) (hG.below ((Below.refl w.heap.size w).alloc (Nat.le_refl _) _) hb)) (by simp) (Below.refl _ _) (fun _ => rfl)
    (fun pre W => Cnt W w.heap.size (sumC pre) ∧ Wri W w.heap.size ∧ Below w.heap.size w W)
    (fun s A B row hs hg hr => ⟨hs.1.same (blk_kept hs.1.1 hg (fun r e => (hr r e).2)), hs.2.1.same (blk_kept hs.1.1 hg (fun r e => (hr r e).2)), hs.2.2.grown hg hs.2.2.size (fun k e => by have := (hr k e).1; simp at this; omega)⟩)
    ⟨⟨by simp [go_sem, sumC, fC], by simp [go_sem, sumC, fC], by simp [go_sem, sumC, fC]⟩, Wri.new _ _ _, (by (try show Below _ _ _); repeat (first | (with_reducible refine Below.setCell ?_ (by first | omega | (simp <;> omega)) _) | (with_reducible refine Below.alloc ?_ (by first | omega | (simp <;> omega)) _) | (with_reducible refine Below.drew ?_) | (with_reducible exact Below.refl _ _) | (with_reducible refine below_call ?_ (by assumption) (by first | omega | (simp <;> omega))) | (with_reducible refine below_call ?_ (Drew.below (by assumption) _) (by first | omega | (simp <;> omega)))))⟩ ?round ?done
  case round =>
    rintro l pre x W hsz ⟨⟨h0, h1, h2⟩, hw, hB⟩ hpre
    simp only [World.size_alloc] at hsz
    obtain ⟨s, p1, p2⟩ := x
    simp only [encS, cV]
    gi_wp2
    refine ⟨(KeepsOthers.alloc _ _).from _, (by (try show Below _ _ _); repeat (first | (with_reducible refine Below.setCell ?_ (by first | omega | (simp <;> omega)) _) | (with_reducible refine Below.alloc ?_ (by first | omega | (simp <;> omega)) _) | (with_reducible refine Below.drew ?_) | (with_reducible exact Below.refl _ _) | (with_reducible refine below_call ?_ (by assumption) (by first | omega | (simp <;> omega))) | (with_reducible refine below_call ?_ (Drew.below (by assumption) _) (by first | omega | (simp <;> omega))))), ?_⟩
    intro W2 ht
    simp only [World.size_alloc] at ht
    have hS : sumC (pre ++ [(s, p1, p2)]) = withC (sumC pre) (some (p1, p2)) := sumC_snoc pre _
    have c0 := ht.cell _ _ ((al_cell (W := W) (.cells #[.int .i64 p1, .int .i64 p2, .bool true] 118) h0))
    have c1 := ht.cell _ _ ((al_cell (W := W) (.cells #[.int .i64 p1, .int .i64 p2, .bool true] 118) h1))
    have c2 := ht.cell _ _ ((al_cell (W := W) (.cells #[.int .i64 p1, .int .i64 p2, .bool true] 118) h2))
    have d0 := ht.cell ⟨W.heap.size, 0, none⟩ (.int .i64 p1) (by simp [go_sem])
    have d1 := ht.cell ⟨W.heap.size, 1, none⟩ (.int .i64 p2) (by simp [go_sem])
    have d2 := ht.cell ⟨W.heap.size, 2, none⟩ (.bool true) (by simp [go_sem])
    have hw2 : Wri W2 w.heap.size := (fun o => (World.frozen?_of_block (a := ⟨w.heap.size, o, none⟩) ((ht.blk ((al_cell (W := W) _ h0))).trans (Below.heap_alloc W _ _ (by omega)))).trans (hw o))
    have hB2 : Below w.heap.size w W2 := (hB.alloc hB.size _).trans (ht.below.mono (by omega))
    have hz2 := ht.size
    simp only [World.size_alloc] at hz2
    clear ht hw hB h0 h1 h2
    have fr := hw2
    rcases hq : sumC pre with _ | ⟨s1, s2⟩
    all_goals rw [hq] at c0 c1 c2 hS
    all_goals simp only [fC] at c0 c1 c2
    · gi_wp2_with fail
      refine (CallsIn.inRound l (wideC hF (with_any (none) (some (p1, p2)) _))).mono ?_
      rintro e w3 ⟨rfl, hb3⟩
      have k0 := (hb3.cell (p := ⟨w.heap.size, 0, none⟩) (by show w.heap.size < _; omega)).trans c0
      have k1 := (hb3.cell (p := ⟨w.heap.size, 1, none⟩) (by show w.heap.size < _; omega)).trans c1
      have k2 := (hb3.cell (p := ⟨w.heap.size, 2, none⟩) (by show w.heap.size < _; omega)).trans c2
      have fr3 := hw2.below hb3 (by omega)
      have hz3 := hb3.size
      have g0 := fr3 0
      have g1 := fr3 1
      have g2 := fr3 2
      simp only [withC, cV]
      gi_wp2
      refine ⟨?_, (by (try show Below _ _ _); repeat (first | (with_reducible refine Below.setCell ?_ (by first | omega | (simp <;> omega)) _) | (with_reducible refine Below.alloc ?_ (by first | omega | (simp <;> omega)) _) | (with_reducible refine Below.drew ?_) | (with_reducible exact Below.refl _ _) | (with_reducible refine below_call ?_ (by assumption) (by first | omega | (simp <;> omega))) | (with_reducible refine below_call ?_ (Drew.below (by assumption) _) (by first | omega | (simp <;> omega))))), ⟨?_, ?_, ?_⟩, ?_, ?_⟩
      · exact ((KeepsFrom.of_below hb3 (by omega)).trans ((((KeepsOthers.setCell _ _ _).trans (KeepsOthers.setCell _ _ _)).trans (KeepsOthers.setCell _ _ _)).from _))
      · simp [go_sem, hS, withC, fC, k0, k1, k2]
      · simp [go_sem, hS, withC, fC, k0, k1, k2]
      · simp [go_sem, hS, withC, fC, k0, k1, k2]
      · intro o; simp only [World.frozen?_setCell]; exact fr3 o
      · exact (by (try show Below _ _ _); repeat (first | (with_reducible refine Below.setCell ?_ (by first | omega | (simp <;> omega)) _) | (with_reducible refine Below.alloc ?_ (by first | omega | (simp <;> omega)) _) | (with_reducible refine Below.drew ?_) | (with_reducible exact Below.refl _ _) | (with_reducible exact hB2) | (with_reducible refine below_call ?_ (by assumption) (by first | omega | (simp <;> omega))) | (with_reducible refine below_call ?_ (Drew.below (by assumption) _) (by first | omega | (simp <;> omega)))))
    · gi_wp2_with fail
      refine (CallsIn.inRound l (wideC hF (with_any (some (s1, s2)) (some (p1, p2)) _))).mono ?_
      rintro e w3 ⟨rfl, hb3⟩
      have k0 := (hb3.cell (p := ⟨w.heap.size, 0, none⟩) (by show w.heap.size < _; omega)).trans c0
      have k1 := (hb3.cell (p := ⟨w.heap.size, 1, none⟩) (by show w.heap.size < _; omega)).trans c1
      have k2 := (hb3.cell (p := ⟨w.heap.size, 2, none⟩) (by show w.heap.size < _; omega)).trans c2
      have fr3 := hw2.below hb3 (by omega)
      have hz3 := hb3.size
      have g0 := fr3 0
      have g1 := fr3 1
      have g2 := fr3 2
      simp only [withC, cV]
      gi_wp2
      refine ⟨?_, (by (try show Below _ _ _); repeat (first | (with_reducible refine Below.setCell ?_ (by first | omega | (simp <;> omega)) _) | (with_reducible refine Below.alloc ?_ (by first | omega | (simp <;> omega)) _) | (with_reducible refine Below.drew ?_) | (with_reducible exact Below.refl _ _) | (with_reducible refine below_call ?_ (by assumption) (by first | omega | (simp <;> omega))) | (with_reducible refine below_call ?_ (Drew.below (by assumption) _) (by first | omega | (simp <;> omega))))), ⟨?_, ?_, ?_⟩, ?_, ?_⟩
      · exact ((KeepsFrom.of_below hb3 (by omega)).trans ((((KeepsOthers.setCell _ _ _).trans (KeepsOthers.setCell _ _ _)).trans (KeepsOthers.setCell _ _ _)).from _))
      · simp [go_sem, hS, withC, fC, k0, k1, k2]
      · simp [go_sem, hS, withC, fC, k0, k1, k2]
      · simp [go_sem, hS, withC, fC, k0, k1, k2]
      · intro o; simp only [World.frozen?_setCell]; exact fr3 o
      · exact (by (try show Below _ _ _); repeat (first | (with_reducible refine Below.setCell ?_ (by first | omega | (simp <;> omega)) _) | (with_reducible refine Below.alloc ?_ (by first | omega | (simp <;> omega)) _) | (with_reducible refine Below.drew ?_) | (with_reducible exact Below.refl _ _) | (with_reducible exact hB2) | (with_reducible refine below_call ?_ (by assumption) (by first | omega | (simp <;> omega))) | (with_reducible refine below_call ?_ (Drew.below (by assumption) _) (by first | omega | (simp <;> omega)))))
  case done =>
    rintro D W hD ⟨⟨h0, h1, h2⟩, hw, hB⟩ hK
    have g0 := hw 0
    have g1 := hw 1
    have g2 := hw 2
    simp only [World.size_alloc] at hD
    rcases hq : sumC (come G 1891) with _ | ⟨s1, s2⟩
    all_goals rw [hq] at h0 h1 h2
    all_goals simp only [fC] at h0 h1 h2
    · gi_wp2
      have hK' := ((((KeepsOthers.setCell W ⟨w.heap.size, 0, none⟩ (.int .i64 0)).trans (KeepsOthers.setCell _ ⟨w.heap.size, 1, none⟩ (.int .i64 0))).trans (KeepsOthers.setCell _ ⟨w.heap.size, 2, none⟩ (.bool false))).same D _ hK rfl)
      refine ⟨by simp, .inl ⟨_, _, rfl, run_takeDeferred hK', ?_⟩⟩
      have ht := Turn.putObj (B := D) (.deferred none) (Nat.le_refl D) hK' rfl
      have q0 := ht.cell ⟨w.heap.size, 0, none⟩ (.int .i64 0) (by simp [go_sem, h0, h1, h2])
      have q1 := ht.cell ⟨w.heap.size, 1, none⟩ (.int .i64 0) (by simp [go_sem, h0, h1, h2])
      have q2 := ht.cell ⟨w.heap.size, 2, none⟩ (.bool false) (by simp [go_sem, h0, h1, h2])
      have hBB : Below w.heap.size w (((W.setCell ⟨w.heap.size, 0, none⟩ (.int .i64 0)).setCell ⟨w.heap.size, 1, none⟩ (.int .i64 0)).setCell ⟨w.heap.size, 2, none⟩ (.bool false)) := (by (try show Below _ _ _); repeat (first | (with_reducible refine Below.setCell ?_ (by first | omega | (simp <;> omega)) _) | (with_reducible refine Below.alloc ?_ (by first | omega | (simp <;> omega)) _) | (with_reducible refine Below.drew ?_) | (with_reducible exact Below.refl _ _) | (with_reducible exact hB) | (with_reducible refine below_call ?_ (by assumption) (by first | omega | (simp <;> omega))) | (with_reducible refine below_call ?_ (Drew.below (by assumption) _) (by first | omega | (simp <;> omega)))))
      have hB3 := Below.trans hBB (ht.below.mono (show w.heap.size ≤ D by omega))
      generalize World.putObj _ D _ = W4 at q0 q1 q2 hB3 ⊢
      refine ⟨.agg #[.int .i64 0, .int .i64 0, .bool false], by simp [results, Try.results66, go_sem, q0, q1, q2], by rw [hq]; rfl, hB3⟩
    · gi_wp2
      have hK' := ((((KeepsOthers.setCell W ⟨w.heap.size, 0, none⟩ (.int .i64 s1)).trans (KeepsOthers.setCell _ ⟨w.heap.size, 1, none⟩ (.int .i64 s2))).trans (KeepsOthers.setCell _ ⟨w.heap.size, 2, none⟩ (.bool true))).same D _ hK rfl)
      refine ⟨by simp, .inl ⟨_, _, rfl, run_takeDeferred hK', ?_⟩⟩
      have ht := Turn.putObj (B := D) (.deferred none) (Nat.le_refl D) hK' rfl
      have q0 := ht.cell ⟨w.heap.size, 0, none⟩ (.int .i64 s1) (by simp [go_sem, h0, h1, h2])
      have q1 := ht.cell ⟨w.heap.size, 1, none⟩ (.int .i64 s2) (by simp [go_sem, h0, h1, h2])
      have q2 := ht.cell ⟨w.heap.size, 2, none⟩ (.bool true) (by simp [go_sem, h0, h1, h2])
      have hBB : Below w.heap.size w (((W.setCell ⟨w.heap.size, 0, none⟩ (.int .i64 s1)).setCell ⟨w.heap.size, 1, none⟩ (.int .i64 s2)).setCell ⟨w.heap.size, 2, none⟩ (.bool true)) := (by (try show Below _ _ _); repeat (first | (with_reducible refine Below.setCell ?_ (by first | omega | (simp <;> omega)) _) | (with_reducible refine Below.alloc ?_ (by first | omega | (simp <;> omega)) _) | (with_reducible refine Below.drew ?_) | (with_reducible exact Below.refl _ _) | (with_reducible exact hB) | (with_reducible refine below_call ?_ (by assumption) (by first | omega | (simp <;> omega))) | (with_reducible refine below_call ?_ (Drew.below (by assumption) _) (by first | omega | (simp <;> omega)))))
      have hB3 := Below.trans hBB (ht.below.mono (show w.heap.size ≤ D by omega))
      generalize World.putObj _ D _ = W4 at q0 q1 q2 hB3 ⊢
      refine ⟨.agg #[.int .i64 s1, .int .i64 s2, .bool true], by simp [results, Try.results66, go_sem, q0, q1, q2], by rw [hq]; rfl, hB3⟩


end Go.Proofs.Ytlkecgjpmnganaa
