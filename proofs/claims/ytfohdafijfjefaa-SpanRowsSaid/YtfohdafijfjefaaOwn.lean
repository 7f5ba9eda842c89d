/- Slices of ranges that a function owns; the contract of (*span.runs).add. -/
import Derived.Test.YtfohdafijfjefaaFold
import Derived.Test.YtfohdafijfjefaaMM
import Derived.Deep.RegionHeld3
import Derived.Deep.AppendLies
import Derived.Laws.OwnMore
import Derived.OwnWalk
import Derived.StillTailTactics
import Derived.Deep.RegionLaw
import Derived.BigRegion
import Derived.Deep.DrawnRows
import Derived.Deep.QuietTactic
import Derived.BigQuiet
import Derived.Outline
set_option linter.unusedSimpArgs false
set_option linter.unusedVariables false
namespace Go.Proofs.Ytfohdafijfjefaa
open Go.RowKit Go.Shelf
attribute [local go_sem ↓] Go.wp_at_zero Go.wp_at_succ

def rCs (r : R) : List Value := [.int .i64 r.lo, .int .i64 r.hi]
theorem rCs_len (xs : List R) : (xs.flatMap rCs).length = xs.length * 2 := by
  induction xs with
  | nil => rfl
  | cons x l ih => rw [List.flatMap_cons, List.length_append, ih]; simp [rCs]; omega
theorem rCs_at (xs : List R) (j i : Nat) (hj : j < xs.length) (hi : i < 2) : (xs.flatMap rCs)[j * 2 + i]? = some (R.cell (xs[j]?.getD R.d) i) := by
  induction xs generalizing j with
  | nil => simp at hj
  | cons x l ih =>
    rw [List.flatMap_cons]
    cases j with
    | zero =>
      have : i = 0 ∨ i = 1 := by omega
      rcases this with rfl | rfl <;> rfl
    | succ j =>
      rw [List.getElem?_append_right (by simp [rCs]; omega)]
      have e : (j + 1) * 2 + i - (rCs x).length = j * 2 + i := by simp [rCs]; omega
      rw [e, ih j (by simpa using hj)]
      rfl
theorem rCs_one (xs : List R) : ∀ u ∈ xs.flatMap rCs, u.oneCell' = true := by
  intro u hu
  obtain ⟨t, _, hu⟩ := List.mem_flatMap.1 hu
  simp only [rCs, List.mem_cons, List.not_mem_nil, or_false] at hu
  rcases hu with rfl | rfl <;> rfl

/-- a slice value of one's own that reads as these ranges -/
def OwnR (W : World) (base : Nat) (v : Value) (xs : List R) : Prop := W.ownsRow base 23 2 v xs.length (xs.flatMap rCs)

theorem OwnR.nil (W : World) (base : Nat) : OwnR W base (.slice none 0 0) [] := World.ownsRow_nil W base _ _

theorem OwnR.far {W W' : World} {base : Nat} {v : Value} {xs : List R} (h : OwnR W base v xs) (hs : W.heap.size ≤ W'.heap.size) (hk : ∀ k, v.ownBlock = some k → W'.heap[k]? = W.heap[k]?) : OwnR W' base v xs := by
  refine ⟨h.1, ?_⟩
  rcases h.2 with h0 | ⟨g, cap, cur, hv, hb, hh, h1, h2, h3, h4⟩
  · exact .inl h0
  · refine .inr ⟨g, cap, cur, hv, hb, ?_, h1, h2, h3, h4⟩
    rw [hk g (by rw [hv]; rfl)]
    exact hh

theorem OwnR.below {W W' : World} {base B : Nat} {v : Value} {xs : List R} (h : OwnR W base v xs) (hb : Below B W W') (hB : W.heap.size ≤ B) : OwnR W' base v xs :=
  h.far hb.size (fun k hk => hb.block k (Nat.lt_of_lt_of_le (h.lt k hk).2 hB))

theorem OwnR.base {W : World} {base base' : Nat} {v : Value} {xs : List R} (h : OwnR W base v xs) (hb : base' ≤ base) : OwnR W base' v xs := by
  refine ⟨h.1, ?_⟩
  rcases h.2 with h0 | ⟨g, cap, cur, hv, hb', r⟩
  · exact .inl h0
  · exact .inr ⟨g, cap, cur, hv, Nat.le_trans hb hb', r⟩

/-- how it lies in memory -/
theorem OwnR.reads {W : World} {base : Nat} {v : Value} {xs : List R} (h : OwnR W base v xs) : ∃ A c, v = .slice A xs.length c ∧ xs.length ≤ c ∧ c ≤ maxLen ∧ Ranges W base A xs := by
  rcases h.2 with ⟨h0, hn⟩ | ⟨g, cap, cur, hv, hb, hh, h1, h2, h3, h4⟩
  · exact ⟨none, 0, by rw [hn]; exact h0, by omega, Nat.zero_le _, fun hp => absurd hp (by omega)⟩
  · refine ⟨_, cap, hv, h1, h2, fun hp => ⟨g, 0, rfl, hb, ?_, fun j i hj hi => ?_⟩⟩
    · rcases Nat.lt_or_ge g W.heap.size with hlt | hge
      · exact hlt
      · rw [Array.getElem?_eq_none hge] at hh; cases hh
    · have h' := h
      unfold OwnR at h'
      rw [hv] at h'
      have := h'.cellAt (j * 2 + i) (by omega)
      rw [rCs_at xs j i hj hi] at this
      simpa using this

theorem rCs_set (ys : List R) (l0 l1 u : Int) (m : Nat) (hm : ys.length = m) : ((ys ++ [(⟨l0, l1⟩ : R)]).flatMap rCs).set (m * 2 + 1) (.int .i64 u) = (ys ++ [(⟨l0, u⟩ : R)]).flatMap rCs := by
  rw [List.flatMap_append, List.flatMap_append, List.set_append_right _ _ (by rw [rCs_len]; omega), rCs_len, hm]
  rw [show m * 2 + 1 - m * 2 = 1 by omega]
  rfl

/-- more than nothing -/
theorem OwnR.form {W : World} {base : Nat} {v : Value} {xs : List R} (h : OwnR W base v xs) (hp : 0 < xs.length) : ∃ g c, v = .slice (some ⟨g, 0, none⟩) xs.length c ∧ base ≤ g ∧ g < W.heap.size := World.ownsRow.form h hp

def addR (xs : List R) (r : R) : List R := match xs.getLast? with
  | some l => if r.lo ≤ l.hi + 1 then xs.dropLast ++ [⟨l.lo, max l.hi r.hi⟩] else xs ++ [r]
  | none => [r]
theorem addR_nil (r : R) : addR [] r = [r] := rfl
theorem addR_snoc (ys : List R) (l r : R) : addR (ys ++ [l]) r = if r.lo ≤ l.hi + 1 then ys ++ [⟨l.lo, max l.hi r.hi⟩] else ys ++ [l] ++ [r] := by
  unfold addR
  simp

structure AddPost (base bx : Nat) (xs : List R) (W W' : World) : Prop where
  os : W'.os = W.os
  tape : W'.tape = W.tape
  output : W'.output = W.output
  size : W.heap.size ≤ W'.heap.size
  box : ∃ v', W'.cell? ⟨bx, 0, none⟩ = some v' ∧ OwnR W' base v' xs
  bf : W'.frozen? ⟨bx, 0, none⟩ = false
  far : ∀ k, k < base → k ≠ bx → W'.heap[k]? = W.heap[k]?

theorem AddPost.below {base bx B : Nat} {xs : List R} {w W W' : World} (h : AddPost base bx xs W W') (hw : Below B w W) (h1 : B ≤ bx) (h2 : bx < base) : Below B w W' :=
  hw.trans ⟨h.os, h.tape, h.output, h.size, fun k hk => h.far k (by omega) (by omega)⟩
theorem AddPost.cell {base bx : Nat} {xs : List R} {W W' : World} (h : AddPost base bx xs W W') {b : Nat} (hb : b < base) (hne : b ≠ bx) (o : Nat) : W'.cell? ⟨b, o, none⟩ = W.cell? ⟨b, o, none⟩ := World.cell?_of_block (h.far b hb hne)
theorem AddPost.frozen {base bx : Nat} {xs : List R} {W W' : World} (h : AddPost base bx xs W W') {b : Nat} (hb : b < base) (hne : b ≠ bx) (o : Nat) : W'.frozen? ⟨b, o, none⟩ = W.frozen? ⟨b, o, none⟩ := World.frozen?_of_block (h.far b hb hne)

theorem infoRange : (Try.prog.info? 23).map (fun i => (i.zero, i.size, i.bytes)) = some (some (.agg #[.int .i64 0, .int .i64 0]), 2, 16) := by kernel_rfl

theorem news_two {W : World} {g : Nat} {a b : Value} (h0 : W.cell? ⟨g, 0, none⟩ = some a) (h1 : W.cell? ⟨g, 1, none⟩ = some b) : ∀ j u, [a, b][j]? = some u → W.cell? ((⟨g, 0, none⟩ : Addr).add j) = some u := by
  intro j u hu
  match j, hu with
  | 0, hu => simpa [Addr.add, h0] using hu
  | 1, hu => simpa [Addr.add, h1] using hu

set_option maxRecDepth 100000 in
set_option maxHeartbeats 2000000 in
theorem add_any (base bx : Nat) (v : Value) (xs : List R) (r0 r1 : Int) (w : World) (hbx : bx < base) (hbase : base ≤ w.heap.size) (hv : w.cell? ⟨bx, 0, none⟩ = some v) (hf : w.frozen? ⟨bx, 0, none⟩ = false) (ho : OwnR w base v xs) (hnil : xs = [] → v = .slice none 0 0) (hlen : xs.length ≤ 1000) (hhi : ∀ x ∈ xs, -4000000000000000000 ≤ x.hi ∧ x.hi ≤ 4000000000000000000) :
    Calls Try.prog 118 #[.pointer (some ⟨bx, 0, none⟩), .agg #[.int .i64 r0, .int .i64 r1]] w fun e w' => (∃ u, e = .returned u) ∧ AddPost base bx (addR xs ⟨r0, r1⟩) w w' := by
  obtain ⟨i5, hi5, hz5, hs5, hb5⟩ := info_parts infoRange
  have hbw : bx < w.heap.size := by omega
  rcases List.eq_nil_or_concat xs with rfl | ⟨ys, l, rfl⟩
  · rw [addR_nil]
    have hvv := hnil rfl
    clear hnil
    subst hvv
    obtain ⟨X, hX⟩ : ∃ X : List R, [] = X := ⟨_, rfl⟩
    have HXL : Hid (X.length = 0) := by rw [← hX]; rfl
    have oX : ∀ W : World, W.ownsRow base 23 2 (.slice none 0 0) 0 (X.flatMap rCs) := by intro W; rw [← hX]; exact World.ownsRow_nil _ _ _ _
    have hXX : ([(⟨r0, r1⟩ : R)] : List R) = X ++ [⟨r0, r1⟩] := by rw [← hX]; rfl
    rw [hXX]
    clear hX hXX ho
    go_enter Try.func118, Try.ntmps118
    go_upto_region 2 with (fail)
    obtain ⟨wa, hwa⟩ : ∃ wa, w.alloc (.cells #[.int .i64 r0, .int .i64 r1] 23) = wa := ⟨_, rfl⟩
    have ab : wa.cell? ⟨bx, 0, none⟩ = some (.slice none 0 0) := by rw [← hwa]; simp [go_sem, hv, hbw]
    have ar0 : wa.cell? ⟨w.heap.size, 0, none⟩ = some (.int .i64 r0) := by rw [← hwa]; simp [go_sem]
    have ar1 : wa.cell? ⟨w.heap.size, 1, none⟩ = some (.int .i64 r1) := by rw [← hwa]; simp [go_sem]
    have af : wa.frozen? ⟨bx, 0, none⟩ = false := by rw [← hwa]; simp [go_sem, hf, hbw]
    have aB : Below w.heap.size w wa := by rw [← hwa]; exact (Below.refl _ _).alloc (Nat.le_refl _) _
    have az : w.heap.size < wa.heap.size := by rw [← hwa]; simp
    have abw : bx < wa.heap.size := by omega
    rw [hwa]
    clear hwa
    go_quiet (fail)
    generalize hwq2 : World.drewN wa _ = w2
    have hd2 : Drew wa w2 := ⟨_, hwq2.symm⟩
    have hb2 : Below wa.heap.size wa w2 := hd2.below _
    have hz2 := hb2.size
    clear hwq2
    have hc2_0 := fun o => hb2.cell (p := ⟨w.heap.size, o, none⟩) (by show w.heap.size < _; omega)
    have hf2_0 := fun o => hb2.frozen (p := ⟨w.heap.size, o, none⟩) (by show w.heap.size < _; omega)
    have hz2_0 : w.heap.size < w2.heap.size := by omega
    have hc2_b := fun o => hb2.cell (p := ⟨bx, o, none⟩) (by show bx < _; first | omega | (simp only [World.size_alloc, World.size_setCell, World.size_drew]; omega))
    have hf2_b := fun o => hb2.frozen (p := ⟨bx, o, none⟩) (by show bx < _; first | omega | (simp only [World.size_alloc, World.size_setCell, World.size_drew]; omega))
    have hz2_b : bx < w2.heap.size := by omega
    have hB2 : Below w.heap.size w w2 := below_call aB hb2 (by omega)
    have o2 := oX w2
    obtain ⟨wd, hwd⟩ : ∃ wd, w2.drew = wd := ⟨_, rfl⟩
    have b0 : w2.cell? ⟨bx, 0, none⟩ = some (.slice none 0 0) := by rw [hc2_b, ab]
    have b1 : wd.cell? ⟨w.heap.size, 0, none⟩ = some (.int .i64 r0) := by rw [← hwd]; show w2.cell? _ = _; rw [hc2_0, ar0]
    have b2 : wd.cell? ⟨w.heap.size, 1, none⟩ = some (.int .i64 r1) := by rw [← hwd]; show w2.cell? _ = _; rw [hc2_0, ar1]
    have b3 : wd.frozen? ⟨bx, 0, none⟩ = false := by rw [← hwd]; show w2.frozen? _ = _; rw [hf2_b, af]
    have b4 : wd.cell? ⟨bx, 0, none⟩ = some (.slice none 0 0) := by rw [← hwd]; exact b0
    have od : wd.ownsRow base 23 2 (.slice none 0 0) (0) (X.flatMap rCs) := by rw [← hwd]; exact o2.drew
    have hbd : Below w.heap.size w wd := by rw [← hwd]; exact hB2.drew
    have hbz : bx < wd.heap.size := by have := hbd.size; omega
    have hBd : base ≤ wd.heap.size := by have := hbd.size; omega
    go_wp2_with fail
    go_region_law ((refine step_append_lies _ (by rfl) _ _ _ (by rfl) base 23 i5 _ 2 16 Try.underlying143 hi5 hz5 hs5 hb5 rfl (by omega) (.slice none 0 0) (0) (X.flatMap rCs) (by rfl) (od.alloc _) ⟨wd.heap.size, 0, none⟩ 1 1 [.int .i64 r0, .int .i64 r1] (by rfl) (by rfl) (World.news_of_block (cs := #[.int .i64 r0, .int .i64 r1]) (t := 23) (fr := (0, 0)) (heap_alloc_new wd _)) (by simp [Value.oneCell']) (by omega) (by simp only [maxLen]; omega) (by omega) (by simp; omega) (wd.heap.size + 1) (by simp) ?_; intro g3 c3 w3 o3 hgrow hat3 hlt3; have k0 : w3.cell? ⟨bx, 0, none⟩ = some (.slice none 0 0) := (by rw [hgrow.cell_far _ (by simp; omega) (by simp [Value.ownBlock] <;> omega)]; simp [go_sem, b4, hbz]); have k1 : w3.frozen? ⟨bx, 0, none⟩ = false := (by rw [hgrow.frozen_far _ (by simp; omega) (by simp [Value.ownBlock] <;> omega)]; simp [go_sem, b3, hbz])))
    all_goals
      refine bodyPost_end (results_none rfl _ _ _) rfl ⟨⟨_, rfl⟩, ?_⟩
      have hb3 : Below base w w3 := Below.grown ((hbd.mono hbase).alloc hBd _) hgrow (by simp; omega) (by simp [Value.ownBlock] <;> omega)
      refine { os := hb3.os, tape := hb3.tape, output := hb3.output, size := ?_, box := ⟨.slice (some ⟨g3, 0, none⟩) (0 + 1) c3, ?_, ?_⟩, bf := ?_, far := ?_ }
      · have := hb3.size; simpa using this
      · rw [cell_set, if_pos ⟨rfl, rfl⟩, k0]; rfl
      · have o4 := ownsRow_setCell_below (a := ⟨bx, 0, none⟩) o3 hbx (.slice (some ⟨g3, 0, none⟩) (0 + 1) c3)
        unfold OwnR
        rw [List.length_append, HXL.out, List.flatMap_append]
        exact o4
      · rw [World.frozen?_setCell]; exact k1
      · intro k hk hne
        rw [Below.heap_setCell _ _ _ _ (by show k ≠ bx; omega)]
        exact hb3.block k hk
  · rw [List.concat_eq_append] at *
    obtain ⟨l0, l1⟩ := l
    have hl1 := hhi ⟨l0, l1⟩ (by simp)
    simp only at hl1
    obtain ⟨g, c, hvv, hg1, hg2⟩ := ho.form (by simp)
    have hlen2 : (ys ++ [(⟨l0, l1⟩ : R)]).length = ys.length + 1 := by simp
    rw [hlen2] at hvv hlen
    subst hvv
    have ho' := ho
    unfold OwnR at ho'
    rw [hlen2] at ho'
    have hc1 : w.cell? ⟨g, ys.length * 2 + 1, none⟩ = some (.int .i64 l1) := by
      have := ho'.cellAt (ys.length * 2 + 1) (by omega)
      rw [rCs_at _ ys.length 1 (by simp) (by omega)] at this
      simpa [R.cell] using this
    have hfz : w.frozen? ⟨g, ys.length * 2 + 1, none⟩ = false := ho'.frozenAt _
    have hmg : g ≠ bx := by omega
    have hxs : (addR (ys ++ [⟨l0, l1⟩]) ⟨r0, r1⟩) = if r0 ≤ l1 + 1 then ys ++ [⟨l0, max l1 r1⟩] else ys ++ [⟨l0, l1⟩] ++ [⟨r0, r1⟩] := addR_snoc _ _ _
    rw [hxs]
    clear hxs hhi hlen2
    generalize hm : ys.length = m at *
    have Hm := Lib.hid hm
    clear hm
    have hm0 : (0 : Int) ≤ (m : Int) := Int.natCast_nonneg _
    have hm1 : (m : Int) < ((m + 1 : Nat) : Int) := by omega
    by_cases hle : r0 ≤ l1 + 1
    · rw [if_pos hle]
      go_enter Try.func118, Try.ntmps118
      go_upto_region 2 with (fail)
      obtain ⟨wa, hwa⟩ : ∃ wa, w.alloc (.cells #[.int .i64 r0, .int .i64 r1] 23) = wa := ⟨_, rfl⟩
      have ab : wa.cell? ⟨bx, 0, none⟩ = some (.slice (some ⟨g, 0, none⟩) (m + 1) c) := by rw [← hwa]; simp [go_sem, hv, hbw]
      have ag : wa.cell? ⟨g, m * 2 + 1, none⟩ = some (.int .i64 l1) := by rw [← hwa]; simp [go_sem, hc1, hg2]
      have ar0 : wa.cell? ⟨w.heap.size, 0, none⟩ = some (.int .i64 r0) := by rw [← hwa]; simp [go_sem]
      have ar1 : wa.cell? ⟨w.heap.size, 1, none⟩ = some (.int .i64 r1) := by rw [← hwa]; simp [go_sem]
      have af : wa.frozen? ⟨bx, 0, none⟩ = false := by rw [← hwa]; simp [go_sem, hf, hbw]
      have agf : wa.frozen? ⟨g, m * 2 + 1, none⟩ = false := by rw [← hwa]; simp [go_sem, hfz, hg2]
      have aB : Below w.heap.size w wa := by rw [← hwa]; exact (Below.refl _ _).alloc (Nat.le_refl _) _
      have az : w.heap.size < wa.heap.size := by rw [← hwa]; simp
      have abw : bx < wa.heap.size := by omega
      have agw : g < wa.heap.size := by omega
      rw [hwa]
      clear hwa
      go_quiet (fail)
      generalize hwq2 : World.drewN wa _ = w2
      have hd2 : Drew wa w2 := ⟨_, hwq2.symm⟩
      have hb2 : Below wa.heap.size wa w2 := hd2.below _
      have hz2 := hb2.size
      clear hwq2
      have hc2_0 := fun o => hb2.cell (p := ⟨w.heap.size, o, none⟩) (by show w.heap.size < _; omega)
      have hf2_0 := fun o => hb2.frozen (p := ⟨w.heap.size, o, none⟩) (by show w.heap.size < _; omega)
      have hz2_0 : w.heap.size < w2.heap.size := by omega
      have hc2_b := fun o => hb2.cell (p := ⟨bx, o, none⟩) (by show bx < _; first | omega | (simp only [World.size_alloc, World.size_setCell, World.size_drew]; omega))
      have hf2_b := fun o => hb2.frozen (p := ⟨bx, o, none⟩) (by show bx < _; first | omega | (simp only [World.size_alloc, World.size_setCell, World.size_drew]; omega))
      have hz2_b : bx < w2.heap.size := by omega
      have hc2_g := fun o => hb2.cell (p := ⟨g, o, none⟩) (by show g < _; first | omega | (simp only [World.size_alloc, World.size_setCell, World.size_drew]; omega))
      have hf2_g := fun o => hb2.frozen (p := ⟨g, o, none⟩) (by show g < _; first | omega | (simp only [World.size_alloc, World.size_setCell, World.size_drew]; omega))
      have hz2_g : g < w2.heap.size := by omega
      go_wp2_with fail
      have hwm : IntKind.i64.wrap (m : Int) = (m : Int) := by rw [IntKind.wrap_i64]; omega
      have hm2 : (m : Int) < (m : Int) + 1 := by omega
      go_still_tail 18, (by kernel_rfl)
      change wpList _ _ _ _ _ w2.drew
      go_wp2
      refine bodyPost_ret (results_none rfl _ _ _) rfl ⟨⟨_, rfl⟩, ?_⟩
      have hB2 : Below w.heap.size w w2 := below_call aB hb2 (by omega)
      have o2 : OwnR w2 base (.slice (some ⟨g, 0, none⟩) (m + 1) c) (ys ++ [⟨l0, l1⟩]) := ho.below hB2 (Nat.le_refl _)
      unfold OwnR at o2
      rw [show (ys ++ [(⟨l0, l1⟩ : R)]).length = m + 1 by simp [Hm.out]] at o2
      have o3 := (o2.stored (m * 2 + 1) (.int .i64 (max l1 r1))).1
      rw [rCs_set _ _ _ _ _ Hm.out] at o3
      refine { os := hB2.os, tape := hB2.tape, output := hB2.output, size := ?_, box := ⟨.slice (some ⟨g, 0, none⟩) (m + 1) c, ?_, ?_⟩, bf := ?_, far := ?_ }
      · have := hB2.size; simpa using this
      · show (w2.setCell ⟨g, m * 2 + 1, none⟩ _).cell? _ = _
        rw [cell_set, if_neg (fun h => hmg h.1), hc2_b, ab]
      · have o4 := o3.drew
        show World.ownsRow _ _ _ _ _ _ _
        rw [show (ys ++ [(⟨l0, max l1 r1⟩ : R)]).length = m + 1 by simp [Hm.out]]
        exact o4
      · show (w2.setCell ⟨g, m * 2 + 1, none⟩ _).frozen? _ = _
        rw [World.frozen?_setCell, hf2_b, af]
      · intro k hk hne
        show (w2.setCell ⟨g, m * 2 + 1, none⟩ _).heap[k]? = _
        rw [Below.heap_setCell _ _ _ _ (by show k ≠ g; omega)]
        exact hB2.block k (by omega)
    · rw [if_neg hle]
      have hXL : (ys ++ [(⟨l0, l1⟩ : R)]).length = m + 1 := by simp [Hm.out]
      generalize hX : ys ++ [(⟨l0, l1⟩ : R)] = X at ho ho' hXL ⊢
      have HXL := Lib.hid hXL
      clear hX hXL hnil
      go_enter Try.func118, Try.ntmps118
      go_upto_region 2 with (fail)
      obtain ⟨wa, hwa⟩ : ∃ wa, w.alloc (.cells #[.int .i64 r0, .int .i64 r1] 23) = wa := ⟨_, rfl⟩
      have ab : wa.cell? ⟨bx, 0, none⟩ = some (.slice (some ⟨g, 0, none⟩) (m + 1) c) := by rw [← hwa]; simp [go_sem, hv, hbw]
      have ag : wa.cell? ⟨g, m * 2 + 1, none⟩ = some (.int .i64 l1) := by rw [← hwa]; simp [go_sem, hc1, hg2]
      have ar0 : wa.cell? ⟨w.heap.size, 0, none⟩ = some (.int .i64 r0) := by rw [← hwa]; simp [go_sem]
      have ar1 : wa.cell? ⟨w.heap.size, 1, none⟩ = some (.int .i64 r1) := by rw [← hwa]; simp [go_sem]
      have af : wa.frozen? ⟨bx, 0, none⟩ = false := by rw [← hwa]; simp [go_sem, hf, hbw]
      have agf : wa.frozen? ⟨g, m * 2 + 1, none⟩ = false := by rw [← hwa]; simp [go_sem, hfz, hg2]
      have aB : Below w.heap.size w wa := by rw [← hwa]; exact (Below.refl _ _).alloc (Nat.le_refl _) _
      have az : w.heap.size < wa.heap.size := by rw [← hwa]; simp
      have abw : bx < wa.heap.size := by omega
      have agw : g < wa.heap.size := by omega
      rw [hwa]
      clear hwa
      go_quiet (fail)
      generalize hwq2 : World.drewN wa _ = w2
      have hd2 : Drew wa w2 := ⟨_, hwq2.symm⟩
      have hb2 : Below wa.heap.size wa w2 := hd2.below _
      have hz2 := hb2.size
      clear hwq2
      have hc2_0 := fun o => hb2.cell (p := ⟨w.heap.size, o, none⟩) (by show w.heap.size < _; omega)
      have hf2_0 := fun o => hb2.frozen (p := ⟨w.heap.size, o, none⟩) (by show w.heap.size < _; omega)
      have hz2_0 : w.heap.size < w2.heap.size := by omega
      have hc2_b := fun o => hb2.cell (p := ⟨bx, o, none⟩) (by show bx < _; first | omega | (simp only [World.size_alloc, World.size_setCell, World.size_drew]; omega))
      have hf2_b := fun o => hb2.frozen (p := ⟨bx, o, none⟩) (by show bx < _; first | omega | (simp only [World.size_alloc, World.size_setCell, World.size_drew]; omega))
      have hz2_b : bx < w2.heap.size := by omega
      have hB2 : Below w.heap.size w w2 := below_call aB hb2 (by omega)
      have o2 : w2.ownsRow base 23 2 (.slice (some ⟨g, 0, none⟩) (m + 1) c) (m + 1) (X.flatMap rCs) := by
        have := ho.below hB2 (Nat.le_refl _)
        unfold OwnR at this
        rw [HXL.out] at this
        exact this
      clear ho ho' hc1 hfz
      obtain ⟨wd, hwd⟩ : ∃ wd, w2.drew = wd := ⟨_, rfl⟩
      have b0 : w2.cell? ⟨bx, 0, none⟩ = some (.slice (some ⟨g, 0, none⟩) (m + 1) c) := by rw [hc2_b, ab]
      have b1 : wd.cell? ⟨w.heap.size, 0, none⟩ = some (.int .i64 r0) := by rw [← hwd]; show w2.cell? _ = _; rw [hc2_0, ar0]
      have b2 : wd.cell? ⟨w.heap.size, 1, none⟩ = some (.int .i64 r1) := by rw [← hwd]; show w2.cell? _ = _; rw [hc2_0, ar1]
      have b3 : wd.frozen? ⟨bx, 0, none⟩ = false := by rw [← hwd]; show w2.frozen? _ = _; rw [hf2_b, af]
      have b4 : wd.cell? ⟨bx, 0, none⟩ = some (.slice (some ⟨g, 0, none⟩) (m + 1) c) := by rw [← hwd]; exact b0
      have od : wd.ownsRow base 23 2 (.slice (some ⟨g, 0, none⟩) (m + 1) c) (m + 1) (X.flatMap rCs) := by rw [← hwd]; exact o2.drew
      have hbd : Below w.heap.size w wd := by rw [← hwd]; exact hB2.drew
      have hbz : bx < wd.heap.size := by have := hbd.size; omega
      have hBd : base ≤ wd.heap.size := by have := hbd.size; omega
      go_wp2_with fail
      go_region_law ((refine step_append_lies _ (by rfl) _ _ _ (by rfl) base 23 i5 _ 2 16 Try.underlying143 hi5 hz5 hs5 hb5 rfl (by omega) (.slice (some ⟨g, 0, none⟩) (m + 1) c) (m + 1) (X.flatMap rCs) (by rfl) (od.alloc _) ⟨wd.heap.size, 0, none⟩ 1 1 [.int .i64 r0, .int .i64 r1] (by rfl) (by rfl) (World.news_of_block (cs := #[.int .i64 r0, .int .i64 r1]) (t := 23) (fr := (0, 0)) (heap_alloc_new wd _)) (by simp [Value.oneCell']) (by omega) (by simp only [maxLen]; omega) (by omega) (by simp; omega) (wd.heap.size + 1) (by simp) ?_; intro g3 c3 w3 o3 hgrow hat3 hlt3; have k0 : w3.cell? ⟨bx, 0, none⟩ = some (.slice (some ⟨g, 0, none⟩) (m + 1) c) := (by rw [hgrow.cell_far _ (by simp; omega) (by simp [Value.ownBlock] <;> omega)]; simp [go_sem, b4, hbz]); have k1 : w3.frozen? ⟨bx, 0, none⟩ = false := (by rw [hgrow.frozen_far _ (by simp; omega) (by simp [Value.ownBlock] <;> omega)]; simp [go_sem, b3, hbz])))
      all_goals
        refine bodyPost_end (results_none rfl _ _ _) rfl ⟨⟨_, rfl⟩, ?_⟩
        have hb3 : Below base w w3 := Below.grown ((hbd.mono hbase).alloc hBd _) hgrow (by simp; omega) (by simp [Value.ownBlock] <;> omega)
        refine { os := hb3.os, tape := hb3.tape, output := hb3.output, size := ?_, box := ⟨.slice (some ⟨g3, 0, none⟩) (m + 1 + 1) c3, ?_, ?_⟩, bf := ?_, far := ?_ }
        · have := hb3.size; simpa using this
        · rw [cell_set, if_pos ⟨rfl, rfl⟩, k0]; rfl
        · have o4 := ownsRow_setCell_below (a := ⟨bx, 0, none⟩) o3 hbx (.slice (some ⟨g3, 0, none⟩) (m + 1 + 1) c3)
          unfold OwnR
          rw [List.length_append, HXL.out, List.flatMap_append]
          exact o4
        · rw [World.frozen?_setCell]; exact k1
        · intro k hk hne
          rw [Below.heap_setCell _ _ _ _ (by show k ≠ bx; omega)]
          exact hb3.block k hk

end Go.Proofs.Ytfohdafijfjefaa
