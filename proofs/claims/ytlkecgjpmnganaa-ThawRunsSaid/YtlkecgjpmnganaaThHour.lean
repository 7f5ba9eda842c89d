/- Contract: the field behind an hour. -/
import Derived.Test.YtlkecgjpmnganaaThAll
import Derived.Test.YtlkecgjpmnganaaThKinds
import Derived.Test.YtlkecgjpmnganaaThLift
set_option linter.unusedSimpArgs false
set_option linter.unusedVariables false
namespace Go.Proofs.Ytlkecgjpmnganaa
open Go.RowKit Go.Shelf
attribute [local go_sem] Oper.semAt_some









theorem fC_some0 (p : Int × Int) : fC (some p) 0 = .int .i64 p.1 := rfl
theorem fC_some1 (p : Int × Int) : fC (some p) 1 = .int .i64 p.2 := rfl
theorem fC_some2 (p : Int × Int) : fC (some p) 2 = .bool true := rfl

/-- one step of a block's history behind others -/
theorem grown_tr {A B C : World} {nb : Nat} {row : Option Nat} (h : A.grownBy B (some nb)) (k : B.grownBy C row) (hr : ∀ r, row = some r → A.heap.size ≤ r ∨ r = nb) : A.grownBy C (some nb) := by
  refine ⟨k.os.trans h.os, k.tape.trans h.tape, k.output.trans h.output, Nat.le_trans h.size k.size, fun i hi hne => ?_⟩
  refine (k.block i (Nat.lt_of_lt_of_le hi h.size) (fun e => ?_)).trans (h.block i hi hne)
  rcases hr i e.symm with h1 | h1
  · omega
  · exact hne (by rw [h1])
theorem grown_below {A B C : World} {nb : Nat} (h : A.grownBy B (some nb)) (k : Below A.heap.size B C) : A.grownBy C (some nb) :=
  ⟨k.os.trans h.os, k.tape.trans h.tape, k.output.trans h.output, Nat.le_trans h.size k.size, fun i hi hne => (k.block i hi).trans (h.block i hi hne)⟩
theorem grown_refl (A : World) (r : Option Nat) : A.grownBy A r := ⟨rfl, rfl, rfl, Nat.le_refl _, fun _ _ _ => rfl⟩
theorem grown_drew (A : World) (r : Option Nat) : A.grownBy A.drew r := ⟨rfl, rfl, rfl, Nat.le_refl _, fun _ _ _ => rfl⟩
theorem grown_set (A : World) (b o : Nat) (v : Value) : A.grownBy (A.setCell ⟨b, o, none⟩ v) (some b) :=
  ⟨rfl, rfl, rfl, by simp, fun k _ hne => heap_setCell_other A _ k v (fun e => hne (by rw [e]))⟩
theorem grown_put (A : World) (b c i : Nat) (d : Option (Int × Int)) : A.grownBy (putC A b c i d) (some b) := by
  unfold putC
  exact grown_tr (grown_tr (grown_set A b _ _) (grown_set _ b _ _) (fun r e => Or.inr (by cases e; rfl))) (grown_set _ b _ _) (fun r e => Or.inr (by cases e; rfl))
theorem grown_bel {A B : World} {nb n0 : Nat} (h : A.grownBy B (some nb)) (hn : n0 ≤ nb) (hA : n0 ≤ A.heap.size) : Below n0 A B := (Below.refl n0 A).grown h hA (fun k e => by cases e; exact hn)
theorem gcell {A B : World} {nb k o : Nat} {v : Value} (h : A.grownBy B (some nb)) (hc : A.cell? ⟨k, o, none⟩ = some v) (hne : k ≠ nb) : B.cell? ⟨k, o, none⟩ = some v := by
  obtain ⟨x, hx, _⟩ := cells_of_cell hc
  exact (World.cell?_of_block (h.block k (Array.getElem?_eq_some_iff.1 hx).1 (fun e => hne (by cases e; rfl)))).trans hc

/-- behind an hour -/
def HourPost (w : World) (C : Cs) (e : Ending) (w' : World) : Prop := ∃ b' G', e = .returned (.pointer (some ⟨b', 0, none⟩)) ∧ w.heap.size ≤ b' ∧ b' < w'.heap.size ∧ Fld w' b' G' ∧ Wri w' b' ∧ Rep G' C ∧ Below w.heap.size w w'

/-- what has been taken in -/
def preC (r : TR) (ks : List Int) (may : Bool → Bool) (C : Cs) (pre : List (St × (Int × Int))) : Cs := fun t n => ∃ x ∈ pre, ∃ k ∈ ks, contr r may C x.1 k t n

theorem kinds_mem {r : TR} {lo hi k : Int} (h : k ∈ kindsT r lo hi) : 1 ≤ k ∧ k ≤ 3 := by
  unfold kindsT at h
  have := (List.mem_filter.1 h).1
  simp at this
  omega
theorem kinds_le (r : TR) (lo hi : Int) : (kindsT r lo hi).length ≤ 3 := by
  have := List.length_filter_le (canT r lo hi) [1, 2, 3]
  simpa [kindsT] using this

theorem preC_all {r : TR} (hr : TROk r) {lo hi : Int} {may : Bool → Bool} {C : Cs} {G : Fl} (hC : Rep G C) (hin : CIn r C) (t : St) (n : Int) : preC r (kindsT r lo hi) may C (come G 1891) t n ↔ hourC r lo hi may C t n := by
  constructor
  · rintro ⟨x, _, k, hk, h⟩
    exact ⟨x.1, k, hk, h⟩
  · rintro ⟨s, k, hk, h⟩
    obtain ⟨m, hm, _⟩ := h.2.2
    obtain ⟨h1, h2, h3, h4⟩ := hin s m hm
    have := hr.u2; have := hr.m2
    obtain ⟨a, b⟩ := s
    simp only at h1 h2 h3 h4
    obtain ⟨a, rfl⟩ := Int.eq_ofNat_of_zero_le h1
    obtain ⟨b, rfl⟩ := Int.eq_ofNat_of_zero_le h3
    have hs := hC ((a : Int), (b : Int))
    cases hq : G ((a : Int), (b : Int)) with
    | none => rw [hq] at hs; exact absurd hm (hs m)
    | some p => exact ⟨_, mem_come (by omega) (by omega) hq, k, hk, h⟩

theorem preC_snoc (r : TR) (ks : List Int) (may : Bool → Bool) (C : Cs) (pre : List (St × (Int × Int))) (x : St × (Int × Int)) (t : St) (n : Int) : preC r ks may C (pre ++ [x]) t n ↔ preC r ks may C pre t n ∨ ∃ k' ∈ ks, contr r may C x.1 k' t n := by
  unfold preC
  constructor
  · rintro ⟨y, hy, h⟩
    rcases List.mem_append.1 hy with hy | hy
    · exact Or.inl ⟨y, hy, h⟩
    · obtain rfl := List.mem_singleton.1 hy; exact Or.inr h
  · rintro (⟨y, hy, h⟩ | h)
    · exact ⟨y, List.mem_append.2 (Or.inl hy), h⟩
    · exact ⟨x, by simp, h⟩

theorem take_mem_succ {ks : List Int} {k : Nat} (hk : k < ks.length) (p : Int → Prop) : (∃ k' ∈ ks.take (k + 1), p k') ↔ (∃ k' ∈ ks.take k, p k') ∨ p (ks[k]?.getD 0) := by
  rw [List.take_succ_eq_append_getElem hk]
  simp only [List.mem_append, List.mem_singleton, List.getElem?_eq_getElem hk, Option.getD_some]
  constructor
  · rintro ⟨x, h | h, hp⟩
    · exact Or.inl ⟨x, h, hp⟩
    · subst h; exact Or.inr hp
  · rintro (⟨x, h, hp⟩ | hp)
    · exact ⟨x, Or.inl h, hp⟩
    · exact ⟨_, Or.inr rfl, hp⟩

set_option maxRecDepth 100000 in
set_option maxHeartbeats 1000000 in
theorem hour_any (r : TR) (hr : TROk r) (b : Nat) (G : Fl) (C : Cs) (tl th : Int) (g : FuncId) (cap : Array Value) (may : Bool → Bool) (w : World) (hb : b < w.heap.size) (hG : Fld w b G) (hC : Rep G C) (hin : CIn r C) (hbd : ∀ s n, C s n → 0 ≤ n ∧ n ≤ 100000)
    (eg : Enters Try.prog g) (hm : PredB Try.prog g cap Value.bool may w) :
    Calls Try.prog 74 #[rV r, .pointer (some ⟨b, 0, none⟩), .agg #[.int .i64 tl, .int .i64 th], .func (.func g) #[] cap] w (HourPost w (hourC r tl th may C)) := by
  unfold Enters at eg
  refine (callsIn_wide (n := 8)).1 ?_
  obtain ⟨F, hFn, hro, hF⟩ := some_wide
  rw [← hF.out]
  obtain ⟨n, hn, h1⟩ : ∃ n : Nat, n = 8 ∧ 1 ≤ n - 1 - 1 := ⟨8, rfl, by omega⟩
  rw [← hn]
  have f1 := hFn 58
  have f2 := hFn 63
  have f3 := hFn g
  refine callsIn_of_wp_marks Try.func74 rfl (hFn _) ?_ hro
  simp only [Try.ntmps74, List.size_toArray, List.length_cons, List.length_nil, Nat.reduceAdd, Nat.reduceSub, Array.replicate_succ, Array.replicate_zero, List.push_toArray, List.append_toArray, List.nil_append, List.cons_append]
  have hR := fun W => kinds_any r tl th W
  have hrv : rV r = .agg #[.int .i64 r.frost, .int .i64 r.thaw, .int .i64 r.gain, .int .i64 r.full, .int .i64 r.ice, .int .i64 r.most, .int .i64 r.melt, .int .i64 r.rlow, .int .i64 r.rhigh, .int .i64 r.pull] := rfl
  have hst := fun c i k h1 h2 W => step_any r c i k h1 h2 hr W
  rw [hrv] at hR hst ⊢
  gi_wp2_with fail
  refine (wideC hF (hR _)).mono ?_
  rintro e w1 ⟨A, cc, rfl, hlc, hcm, hnil, hE, hb1⟩
  obtain ⟨ks, hks⟩ : ∃ ks, kindsT r tl th = ks := ⟨_, rfl⟩
  have hkm : ∀ k ∈ ks, 1 ≤ k ∧ k ≤ 3 := fun k h => kinds_mem (by rw [hks]; exact h)
  have hkl : ks.length ≤ 3 := by rw [← hks]; exact kinds_le r tl th
  rw [hks] at hlc hnil hE ⊢
  have hz1 := hb1.size
  have fz := (Fld.zero (((w.alloc (.cells #[.int .i64 r.frost, .int .i64 r.thaw, .int .i64 r.gain, .int .i64 r.full, .int .i64 r.ice, .int .i64 r.most, .int .i64 r.melt, .int .i64 r.rlow, .int .i64 r.rhigh, .int .i64 r.pull] 109)).alloc (.cells #[.int .i64 tl, .int .i64 th] 23)).alloc (.cells #[.func (.func g) #[] cap] 143)) 151 (0, 0)).below hb1 (by simp)
  have wz := (Wri.new (((w.alloc (.cells #[.int .i64 r.frost, .int .i64 r.thaw, .int .i64 r.gain, .int .i64 r.full, .int .i64 r.ice, .int .i64 r.most, .int .i64 r.melt, .int .i64 r.rlow, .int .i64 r.rhigh, .int .i64 r.pull] 109)).alloc (.cells #[.int .i64 tl, .int .i64 th] 23)).alloc (.cells #[.func (.func g) #[] cap] 143)) Try.zeroCells151 151).below hb1 (by simp)
  have q0 := (hb1.cell (p := ⟨w.heap.size, 0, none⟩) (by show w.heap.size < _; simp; omega)).trans (show _ = some (.int .i64 r.frost) by simp [go_sem])
  have q1 := (hb1.cell (p := ⟨w.heap.size, 1, none⟩) (by show w.heap.size < _; simp; omega)).trans (show _ = some (.int .i64 r.thaw) by simp [go_sem])
  have q2 := (hb1.cell (p := ⟨w.heap.size, 2, none⟩) (by show w.heap.size < _; simp; omega)).trans (show _ = some (.int .i64 r.gain) by simp [go_sem])
  have q3 := (hb1.cell (p := ⟨w.heap.size, 3, none⟩) (by show w.heap.size < _; simp; omega)).trans (show _ = some (.int .i64 r.full) by simp [go_sem])
  have q4 := (hb1.cell (p := ⟨w.heap.size, 4, none⟩) (by show w.heap.size < _; simp; omega)).trans (show _ = some (.int .i64 r.ice) by simp [go_sem])
  have q5 := (hb1.cell (p := ⟨w.heap.size, 5, none⟩) (by show w.heap.size < _; simp; omega)).trans (show _ = some (.int .i64 r.most) by simp [go_sem])
  have q6 := (hb1.cell (p := ⟨w.heap.size, 6, none⟩) (by show w.heap.size < _; simp; omega)).trans (show _ = some (.int .i64 r.melt) by simp [go_sem])
  have q7 := (hb1.cell (p := ⟨w.heap.size, 7, none⟩) (by show w.heap.size < _; simp; omega)).trans (show _ = some (.int .i64 r.rlow) by simp [go_sem])
  have q8 := (hb1.cell (p := ⟨w.heap.size, 8, none⟩) (by show w.heap.size < _; simp; omega)).trans (show _ = some (.int .i64 r.rhigh) by simp [go_sem])
  have q9 := (hb1.cell (p := ⟨w.heap.size, 9, none⟩) (by show w.heap.size < _; simp; omega)).trans (show _ = some (.int .i64 r.pull) by simp [go_sem])
  have qf := (hb1.cell (p := ⟨w.heap.size + 1 + 1, 0, none⟩) (by show w.heap.size + 1 + 1 < _; simp)).trans (show _ = some (.func (.func g) #[] cap) by simp [go_sem])
  have hB1 : Below w.heap.size w w1 := (by (try show Below _ _ _); repeat (first | (with_reducible refine Below.setCell ?_ (by first | omega | (simp <;> omega)) _) | (with_reducible refine Below.alloc ?_ (by first | omega | (simp <;> omega)) _) | (with_reducible refine Below.drew ?_) | (with_reducible exact Below.refl _ _) | (with_reducible refine below_call ?_ (by assumption) (by first | omega | (simp <;> omega))) | (with_reducible refine below_call ?_ (Drew.below (by assumption) _) (by first | omega | (simp <;> omega)))))
  replace hE := hE.mono (show w.heap.size + 1 + 1 + 1 + 1 ≤ _ by simp)
  simp only [World.size_alloc] at fz wz hz1
  clear hb1
  gi_wp2
  have n0 := al_cell (.cells #[.slice A ks.length cc] 37) q0
  obtain ⟨W1, hW1⟩ : ∃ W1, w1.alloc (.cells #[.slice A ks.length cc] 37) = W1 := ⟨_, rfl⟩
  have hbW : Below w1.heap.size w1 W1 := by rw [← hW1]; exact (Below.refl _ _).alloc (Nat.le_refl _) _
  have qs : W1.cell? ⟨w1.heap.size, 0, none⟩ = some (.slice A ks.length cc) := by rw [← hW1]; simp [go_sem]
  have hzW : W1.heap.size = w1.heap.size + 1 := by rw [← hW1]; simp
  rw [hW1]
  clear hW1 n0
  replace q0 := (hbW.cell (by first | (show w.heap.size < _; omega) | (show w.heap.size + 1 + 1 < _; omega))).trans q0
  replace q1 := (hbW.cell (by first | (show w.heap.size < _; omega) | (show w.heap.size + 1 + 1 < _; omega))).trans q1
  replace q2 := (hbW.cell (by first | (show w.heap.size < _; omega) | (show w.heap.size + 1 + 1 < _; omega))).trans q2
  replace q3 := (hbW.cell (by first | (show w.heap.size < _; omega) | (show w.heap.size + 1 + 1 < _; omega))).trans q3
  replace q4 := (hbW.cell (by first | (show w.heap.size < _; omega) | (show w.heap.size + 1 + 1 < _; omega))).trans q4
  replace q5 := (hbW.cell (by first | (show w.heap.size < _; omega) | (show w.heap.size + 1 + 1 < _; omega))).trans q5
  replace q6 := (hbW.cell (by first | (show w.heap.size < _; omega) | (show w.heap.size + 1 + 1 < _; omega))).trans q6
  replace q7 := (hbW.cell (by first | (show w.heap.size < _; omega) | (show w.heap.size + 1 + 1 < _; omega))).trans q7
  replace q8 := (hbW.cell (by first | (show w.heap.size < _; omega) | (show w.heap.size + 1 + 1 < _; omega))).trans q8
  replace q9 := (hbW.cell (by first | (show w.heap.size < _; omega) | (show w.heap.size + 1 + 1 < _; omega))).trans q9
  replace qf := (hbW.cell (by first | (show w.heap.size < _; omega) | (show w.heap.size + 1 + 1 < _; omega))).trans qf
  replace fz := fz.below hbW (by omega)
  replace wz := wz.below hbW (by omega)
  replace hE := hE.below hbW (Nat.le_refl _)
  replace hB1 := hB1.trans (hbW.mono (by omega))
  clear hbW
  obtain ⟨nb, hnb⟩ : ∃ nb, nb = w.heap.size + 1 + 1 + 1 := ⟨_, rfl⟩
  rw [← hnb] at fz wz hE ⊢
  have hnb1 : w.heap.size + 3 ≤ nb := by omega
  have hnb2 : nb ≤ w.heap.size + 3 := by omega
  clear hnb
  have hGW := hG.below hB1 hb
  refine wpIn_range_all hro (by omega) (gf := 68) (fs := #[.pointer (some ⟨b, 0, none⟩)]) (lb := #[]) rfl (hFn _) (enters_of Try.func68 (by kernel_rfl) rfl)
    (states_gives F (n - 1) (hFn _) hro (by omega) b w.heap.size G _ hb (by omega) hGW) (by omega) (Below.refl _ _) (fun _ => rfl)
    (fun pre W => W1.grownBy W (some nb) ∧ Wri W nb ∧ ∃ G', Fld W nb G' ∧ Rep G' (preC r ks may C pre))
    (fun s X Y row hs hg hr => ⟨grown_tr hs.1 hg (fun k e => Or.inl (hr k e).1), hs.2.1.same (by obtain ⟨G', hF', _⟩ := hs.2.2; exact blk_kept (hF' 0 0 0 (by omega) (by omega) (by omega)) hg (fun k e => (hr k e).2)),
      by obtain ⟨G', hF', hR'⟩ := hs.2.2; exact ⟨G', hF'.same (blk_kept (hF' 0 0 0 (by omega) (by omega) (by omega)) hg (fun k e => (hr k e).2)), hR'⟩⟩)
    ⟨grown_refl _ _, wz, _, fz, fun s n h => by obtain ⟨x, hx, _⟩ := h; cases hx⟩ ?round ?done
  case round =>
    rintro l pre x W hsz ⟨hgw, hwr, G', hF', hR'⟩ hpre
    obtain ⟨hGx, c, i, hc, hi, hx1⟩ := come_mem hpre
    obtain ⟨s, p1, p2⟩ := x
    simp only at hx1 hGx
    subst hx1
    have hCs := hC ((c : Int), (i : Int))
    rw [hGx] at hCs
    have hstin := hin _ _ hCs.1
    have hbd1 := hbd _ _ hCs.1
    have hbd2 := hbd _ _ hCs.2.1
    try simp only at hbd1 hbd2
    simp only [encS, cV, sV]
    gi_wp2
    refine ⟨((KeepsOthers.alloc _ _).trans (KeepsOthers.alloc _ _)).from _, (by (try show Below _ _ _); repeat (first | (with_reducible refine Below.setCell ?_ (by first | omega | (simp <;> omega)) _) | (with_reducible refine Below.alloc ?_ (by first | omega | (simp <;> omega)) _) | (with_reducible refine Below.drew ?_) | (with_reducible exact Below.refl _ _) | (with_reducible refine below_call ?_ (by assumption) (by first | omega | (simp <;> omega))) | (with_reducible refine below_call ?_ (Drew.below (by assumption) _) (by first | omega | (simp <;> omega))))), ?_⟩
    intro W2 ht
    have hz2 := ht.size
    simp only [World.size_alloc] at hz2
    have x0 := ht.cell ⟨W.heap.size, 0, none⟩ (.int .i64 c) (by simp [go_sem])
    have x1 := ht.cell ⟨W.heap.size, 1, none⟩ (.int .i64 i) (by simp [go_sem])
    have y0 := ht.cell ⟨W.heap.size + 1, 0, none⟩ (.int .i64 p1) (by simp [go_sem])
    have y1 := ht.cell ⟨W.heap.size + 1, 1, none⟩ (.int .i64 p2) (by simp [go_sem])
    have y2 := ht.cell ⟨W.heap.size + 1, 2, none⟩ (.bool true) (by simp [go_sem])
    have hg2 : W1.grownBy W2 (some nb) := grown_below (grown_tr (grown_tr hgw (World.grownBy_alloc W _ none) (fun r e => by cases e)) (World.grownBy_alloc _ _ none) (fun r e => by cases e)) ht.below
    have hblk : W2.heap[nb]? = W.heap[nb]? := (ht.blk (al_cell _ (al_cell _ (hF' 0 0 0 (by omega) (by omega) (by omega))))).trans ((Below.heap_alloc _ _ _ (by simp; omega)).trans (Below.heap_alloc _ _ _ (by omega)))
    replace hwr := hwr.same hblk
    replace hF' := hF'.same hblk
    clear ht hblk
    have a0 := gcell hg2 q0 (by omega)
    have a1 := gcell hg2 q1 (by omega)
    have a2 := gcell hg2 q2 (by omega)
    have a3 := gcell hg2 q3 (by omega)
    have a4 := gcell hg2 q4 (by omega)
    have a5 := gcell hg2 q5 (by omega)
    have a6 := gcell hg2 q6 (by omega)
    have a7 := gcell hg2 q7 (by omega)
    have a8 := gcell hg2 q8 (by omega)
    have a9 := gcell hg2 q9 (by omega)
    have af := gcell hg2 qf (by omega)
    have aS := gcell hg2 qs (by omega)
    have hnb2 : nb < W2.heap.size := by omega
    have hEE := hE
    clear hgw
    gi_wp2
    gi_loopw [27] (fun i' wr => ∃ k : Nat, k ≤ ks.length ∧ i' = .int .i64 k ∧ Aside (W2.grownBy wr (some nb)) ∧ Aside (Wri wr nb) ∧ ∃ G2, Aside (Fld wr nb G2) ∧ Aside (Rep G2 (fun t n => preC r ks may C pre t n ∨ ∃ k' ∈ ks.take k, contr r may C ((c : Int), (i : Int)) k' t n)))
      (fun i _ => ks.length - (intOf i).toNat)
    case atStart => exact ⟨0, Nat.zero_le _, rfl, grown_refl _ _, hwr, G', hF', hR'.congr fun t n => by simp⟩
    case round =>
      obtain ⟨k, hk, rfl, hgr, hwk, G2, hFk, hRk⟩ := hrel
      by_cases hlt : k < ks.length
      · obtain ⟨bb, oo, hA, hlo, hlb, hcs⟩ := hEE (by omega)
        subst hA
        have e0 := gcell hgr.out (gcell hg2 (hcs k hlt) (by omega)) (by omega)
        have hkr := hkm (ks[k]?.getD 0) (by rw [List.getElem?_eq_getElem hlt]; exact List.getElem_mem _)
        have hts := take_mem_succ hlt
        obtain ⟨kk, hkk⟩ : ∃ kk, ks[k]?.getD 0 = kk := ⟨_, rfl⟩
        rw [hkk] at e0 hkr hts
        have hltz : (k : Int) < (ks.length : Int) := by omega
        have hi0 : (0 : Int) ≤ (k : Int) := Int.natCast_nonneg _
        have hgz := hgr.out.size
        have a0' := gcell hgr.out a0 (by omega)
        have a1' := gcell hgr.out a1 (by omega)
        have a2' := gcell hgr.out a2 (by omega)
        have a3' := gcell hgr.out a3 (by omega)
        have a4' := gcell hgr.out a4 (by omega)
        have a5' := gcell hgr.out a5 (by omega)
        have a6' := gcell hgr.out a6 (by omega)
        have a7' := gcell hgr.out a7 (by omega)
        have a8' := gcell hgr.out a8 (by omega)
        have a9' := gcell hgr.out a9 (by omega)
        have af' := gcell hgr.out af (by omega)
        have x0' := gcell hgr.out x0 (by omega)
        have x1' := gcell hgr.out x1 (by omega)
        have y0' := gcell hgr.out y0 (by omega)
        have y1' := gcell hgr.out y1 (by omega)
        have y2' := gcell hgr.out y2 (by omega)
        have hst1 := hst c i kk hkr hstin
        have hkind := fun (E : Cs) (H : Rep G2 E) => H.kind (r := r) (may := may) hCs kk
        have hsi := stepT_in hr hstin (k := kk)
        rcases hsr : stepT r ((c : Int), (i : Int)) kk with ⟨⟨c2, i2⟩, ran⟩
        rw [hsr] at hst1 hkind hsi
        obtain ⟨z1, z2, z3, z4⟩ := hsi
        have := hr.u2; have := hr.m2
        simp only at z1 z2 z3 z4 hkind
        obtain ⟨c2, rfl⟩ := Int.eq_ofNat_of_zero_le z1
        obtain ⟨i2, rfl⟩ := Int.eq_ofNat_of_zero_le z3
        have hc2 : c2 ≤ 60 := by omega
        have hi2 : i2 ≤ 30 := by omega
        have hcon : ∀ (t : St) (m : Int), may ran = false → ¬ contr r may C ((c : Int), (i : Int)) kk t m := fun t m hf h => by have := h.1; rw [hsr] at this; simp only at this; rw [hf] at this; cases this
        simp only [sV] at hst1
        gi_wp2_with fail
        refine (CallsIn.inRound l (wideC hF (hst1 _))).mono ?_
        rintro e w3 ⟨rfl, hb3⟩
        have hg3 : W2.grownBy w3 (some nb) := grown_below hgr.out (hb3.mono hgz)
        have hgz3 := hg3.size
        replace a0' := gcell hg3 a0 (by omega)
        replace a1' := gcell hg3 a1 (by omega)
        replace a2' := gcell hg3 a2 (by omega)
        replace a3' := gcell hg3 a3 (by omega)
        replace a4' := gcell hg3 a4 (by omega)
        replace a5' := gcell hg3 a5 (by omega)
        replace a6' := gcell hg3 a6 (by omega)
        replace a7' := gcell hg3 a7 (by omega)
        replace a8' := gcell hg3 a8 (by omega)
        replace a9' := gcell hg3 a9 (by omega)
        replace af' := gcell hg3 af (by omega)
        replace x0' := gcell hg3 x0 (by omega)
        replace x1' := gcell hg3 x1 (by omega)
        replace y0' := gcell hg3 y0 (by omega)
        replace y1' := gcell hg3 y1 (by omega)
        replace y2' := gcell hg3 y2 (by omega)
        have hF3 := hFk.out.below hb3 (by omega)
        have hW3 := hwk.out.below hb3 (by omega)
        have hmr := hm ran
        have s31 : w.heap.size + 1 + 1 < w3.heap.size := by omega
        have s32 : W.heap.size < w3.heap.size := by omega
        have s33 : W.heap.size + 1 < w3.heap.size := by omega
        gi_wp2_with fail
        refine (CallsIn.inRound l (wideC hF (hmr _ ?_))).mono ?_
        · exact hB1.trans ((grown_bel hg2 (by omega) (by omega)).trans ((grown_bel hg3 (by omega) (by omega)).alloc (by omega) _))
        rintro e w4 ⟨rfl, hb4⟩
        have hz4 := hb4.size
        simp only [World.size_alloc] at hz4
        have hg4 : W2.grownBy w4 (some nb) := grown_below (grown_below hg3 ((Below.refl _ w3).alloc (by omega) _)) (hb4.mono (by simp; omega))
        replace a0' := gcell hg4 a0 (by omega)
        replace a1' := gcell hg4 a1 (by omega)
        replace a2' := gcell hg4 a2 (by omega)
        replace a3' := gcell hg4 a3 (by omega)
        replace a4' := gcell hg4 a4 (by omega)
        replace a5' := gcell hg4 a5 (by omega)
        replace a6' := gcell hg4 a6 (by omega)
        replace a7' := gcell hg4 a7 (by omega)
        replace a8' := gcell hg4 a8 (by omega)
        replace a9' := gcell hg4 a9 (by omega)
        replace af' := gcell hg4 af (by omega)
        replace x0' := gcell hg4 x0 (by omega)
        replace x1' := gcell hg4 x1 (by omega)
        replace y0' := gcell hg4 y0 (by omega)
        replace y1' := gcell hg4 y1 (by omega)
        replace y2' := gcell hg4 y2 (by omega)
        have t0 := (hb4.cell (p := ⟨w3.heap.size, 0, none⟩) (by show w3.heap.size < _; simp)).trans (show _ = some (.int .i64 (c2 : Int)) by simp [go_sem])
        have t1 := (hb4.cell (p := ⟨w3.heap.size, 1, none⟩) (by show w3.heap.size < _; simp)).trans (show _ = some (.int .i64 (i2 : Int)) by simp [go_sem])
        replace hF3 := (hF3.below ((Below.refl _ w3).alloc (Nat.le_refl _) _) (by omega)).below hb4 (by simp; omega)
        replace hW3 := (hW3.below ((Below.refl _ w3).alloc (Nat.le_refl _) _) (by omega)).below hb4 (by simp; omega)
        clear hb4 hb3
        cases hmb : may ran with
        | false =>
          gi_wp2
          go_roundw
          case rel =>
            refine ⟨k + 1, by omega, by simp, hg4, hW3, G2, hF3, hRk.out.congr fun t n => ?_⟩
            constructor
            · rintro (h | h)
              · exact Or.inl h
              · exact Or.inr ((hts _).2 (Or.inl h))
            · rintro (h | h)
              · exact Or.inl h
              · rcases (hts _).1 h with h | h
                · exact Or.inr h
                · exact absurd h (hcon _ _ hmb)
          case measure => simp [intOf]; omega
        | true =>
          have hnew := hkind _ hRk.out hmb
          have s41 : w3.heap.size < w4.heap.size := by omega
          have s42 : W.heap.size + 1 < w4.heap.size := by omega
          have s43 : w.heap.size + 1 + 1 < w4.heap.size := by omega
          have wr1 : wrap64 (p1 + 1) = p1 + 1 := IntWalk.wrap64_in _ ⟨by omega, by omega⟩
          have wr2 : wrap64 (p2 + 1) = p2 + 1 := IntWalk.wrap64_in _ ⟨by omega, by omega⟩
          cases ran with
          | false =>
            gi_wp2_with fail
            have hd0 : (w4.alloc (.cells #[.int .i64 p1, .int .i64 p2, .bool true] 118)).cell? ⟨w4.heap.size, 0, none⟩ = some (.int .i64 p1) := by simp [go_sem]
            have hd1 : (w4.alloc (.cells #[.int .i64 p1, .int .i64 p2, .bool true] 118)).cell? ⟨w4.heap.size, 1, none⟩ = some (.int .i64 p2) := by simp [go_sem]
            have hd2 : (w4.alloc (.cells #[.int .i64 p1, .int .i64 p2, .bool true] 118)).cell? ⟨w4.heap.size, 2, none⟩ = some (.bool true) := by simp [go_sem]
            have hbq : Below w4.heap.size w4 (w4.alloc (.cells #[.int .i64 p1, .int .i64 p2, .bool true] 118)) := (Below.refl _ _).alloc (Nat.le_refl _) _
            generalize w4.alloc (.cells #[.int .i64 p1, .int .i64 p2, .bool true] 118) = wq at hd0 hd1 hd2 hbq ⊢
            have hzq := hbq.size
            have t0q := (hbq.cell (p := ⟨w3.heap.size, 0, none⟩) s41).trans t0
            have t1q := (hbq.cell (p := ⟨w3.heap.size, 1, none⟩) s41).trans t1
            have F00 : Fld wq nb G2 := hF3.below hbq (by omega)
            have F0 : Fld wq.drew nb G2 := F00
            have V00 : Wri wq nb := hW3.below hbq (by omega)
            have V0 : Wri wq.drew nb := V00
            clear F00 V00
            have hgq : W2.grownBy wq (some nb) := grown_below hg4 (hbq.mono (by omega))
            obtain ⟨ua, ub, hab⟩ : ∃ ua ub, withC (G2 ((c2 : Int), (i2 : Int))) (some (p1, p2)) = some (ua, ub) := by rcases G2 ((c2 : Int), (i2 : Int)) with _ | ⟨x, y⟩ <;> exact ⟨_, _, rfl⟩
            have hwith := fun W => with_any' (G2 ((c2 : Int), (i2 : Int))) (some (p1, p2)) W
            rw [hab] at hwith
            simp only [fC_some0, fC_some1, fC_some2] at hwith
            have Hab := Lib.hid hab
            clear hab
            have hAll : Aside (∀ W, wq.grownBy W (some nb) → (wq.grownBy W (some nb) ∧ W.cell? ⟨w3.heap.size, 0, none⟩ = some (.int .i64 (c2 : Int)) ∧ W.cell? ⟨w3.heap.size, 1, none⟩ = some (.int .i64 (i2 : Int)) ∧ W.cell? ⟨w4.heap.size, 0, none⟩ = some (.int .i64 p1) ∧ W.cell? ⟨w4.heap.size, 1, none⟩ = some (.int .i64 p2) ∧ W.cell? ⟨w4.heap.size, 2, none⟩ = some (.bool true))) := fun W h => ⟨h, gcell h t0q (by omega), gcell h t1q (by omega), gcell h hd0 (by omega), gcell h hd1 (by omega), gcell h hd2 (by omega)⟩
            refine region_lift (S := fun W => wq.grownBy W (some nb) ∧ W.cell? ⟨w3.heap.size, 0, none⟩ = some (.int .i64 (c2 : Int)) ∧ W.cell? ⟨w3.heap.size, 1, none⟩ = some (.int .i64 (i2 : Int)) ∧ W.cell? ⟨w4.heap.size, 0, none⟩ = some (.int .i64 p1) ∧ W.cell? ⟨w4.heap.size, 1, none⟩ = some (.int .i64 p2) ∧ W.cell? ⟨w4.heap.size, 2, none⟩ = some (.bool true)) hF (by kernel_rfl) (by kernel_rfl) ?_ (hAll.out _ (grown_drew _ _)) (fun hS0 => ?_)
            · rintro ⟨_, _, h⟩; exact h
            (try go_simp)
            refine wpAnyH_take (i := 0) (v := ?_) rfl (by kernel_rfl) (by kernel_rfl) (by kernel_rfl) (fun _ _ _ h => h) (Or.inl ⟨by rfl, ?_⟩) hS0 ?_
            rotate_left
            · (intro W hSw; (try dsimp only at hSw); go_split_ands; go_simp; (try with_reducible rfl))
            (try go_simp)
            (try go_simp)
            refine wpAnyH_take (i := 2) (v := ?_) rfl (by kernel_rfl) (by kernel_rfl) (by kernel_rfl) (fun _ _ _ h => h) (Or.inl ⟨by rfl, ?_⟩) hS0 ?_
            rotate_left
            · (intro W hSw; (try dsimp only at hSw); go_split_ands; go_simp; (try with_reducible rfl))
            (try go_simp)
            (try go_simp)
            refine wpAnyH_take (i := 6) (v := ?_) rfl (by kernel_rfl) (by kernel_rfl) (by kernel_rfl) (fun _ _ _ h => h) (Or.inl ⟨by rfl, ?_⟩) hS0 ?_
            rotate_left
            · (intro W hSw; (try dsimp only at hSw); go_split_ands; go_simp; (try with_reducible rfl))
            (try go_simp)
            refine wpAnyH_ready (rs := [1]) (by kernel_rfl) (by simp) ?_
            refine (AllReadyH.cons rfl (fun K hK => ?_) AllReadyH.nil)
            go_simp
            go_wp2_with (go_at_call 81; refine (at_any nb c2 i2 hc2 hi2 _).mono ?_; rintro e w5 ⟨rfl, hbw5⟩; have gw5 : wq.grownBy w5 (some nb) := grown_below (grown_drew wq (some nb)) (hbw5.mono ((grown_drew wq (some nb))).size); have Fw5 := (F0).below hbw5 (by have := ((grown_drew wq (some nb))).size; omega); have Vw5 := (V0).below hbw5 (by have := ((grown_drew wq (some nb))).size; omega))
            refine hK.out _ _ (hAll.out _ gw5) (fun hS1 => ?_)
            clear hK K
            (try go_simp)
            refine wpAnyH_ready (rs := [3]) (by kernel_rfl) (by simp) ?_
            refine (AllReadyH.cons rfl (fun K hK => ?_) AllReadyH.nil)
            go_simp
            go_wp2_with (go_at_call 81; refine (at_any nb c2 i2 hc2 hi2 _).mono ?_; rintro e w6 ⟨rfl, hbw6⟩; have gw6 : wq.grownBy w6 (some nb) := grown_below gw5 (hbw6.mono (gw5).size); have Fw6 := (Fw5).below hbw6 (by have := (gw5).size; omega); have Vw6 := (Vw5).below hbw6 (by have := (gw5).size; omega))
            refine hK.out _ _ (hAll.out _ gw6) (fun hS2 => ?_)
            clear hK K
            (try go_simp)
            (try go_simp)
            refine wpAnyH_take (i := 4) (v := ?_) rfl (by kernel_rfl) (by kernel_rfl) (by kernel_rfl) (fun _ _ _ h => h) (Or.inl ⟨by rfl, ?_⟩) hS2 ?_
            rotate_left
            · (intro W hSw; (try dsimp only at hSw); go_split_ands; go_simp; (try with_reducible rfl))
            (try go_simp)
            refine wpAnyH_ready (rs := [5]) (by kernel_rfl) (by simp) ?_
            refine (AllReadyH.cons rfl (fun K hK => ?_) AllReadyH.nil)
            go_simp
            have l0 := Fw6 c2 i2 0 (by omega) (by omega) (by omega)
            have l1 := Fw6 c2 i2 1 (by omega) (by omega) (by omega)
            have l2 := Fw6 c2 i2 2 (by omega) (by omega) (by omega)
            simp only [Nat.add_zero] at l0 l1 l2
            go_simp
            clear l0 l1 l2
            refine hK.out _ _ (hAll.out _ gw6) (fun hS3 => ?_)
            clear hK K
            (try go_simp)
            refine wpAnyH_ready (rs := [7]) (by kernel_rfl) (by simp) ?_
            refine (AllReadyH.cons rfl (fun K hK => ?_) AllReadyH.nil)
            go_simp
            go_wp2_with (go_at_call 90; refine (hwith _).mono ?_; rintro e w7 ⟨rfl, hbw7⟩; have gw7 : wq.grownBy w7 (some nb) := grown_below gw6 (hbw7.mono (gw6).size); have Fw7 := (Fw6).below hbw7 (by have := (gw6).size; omega); have Vw7 := (Vw6).below hbw7 (by have := (gw6).size; omega))
            refine hK.out _ _ (hAll.out _ gw7) (fun hS4 => ?_)
            clear hK K
            (try go_simp)
            (try go_simp)
            refine wpAnyH_take (i := 8) (v := ?_) rfl (by kernel_rfl) (by kernel_rfl) (by kernel_rfl) (fun _ _ _ h => h) (Or.inl ⟨by rfl, ?_⟩) hS4 ?_
            rotate_left
            · (intro W hSw; (try dsimp only at hSw); go_split_ands; go_simp; (try with_reducible rfl))
            (try go_simp)
            refine wpAnyH_ready (rs := [9]) (by kernel_rfl) (by simp) ?_
            refine (AllReadyH.cons rfl (fun K hK => ?_) AllReadyH.nil)
            go_simp
            have l0 := Fw7 c2 i2 0 (by omega) (by omega) (by omega)
            have l1 := Fw7 c2 i2 1 (by omega) (by omega) (by omega)
            have l2 := Fw7 c2 i2 2 (by omega) (by omega) (by omega)
            simp only [Nat.add_zero] at l0 l1 l2
            have v0 := Vw7 (c2 * 93 + i2 * 3)
            have v1 := Vw7 (c2 * 93 + i2 * 3 + 1)
            have v2 := Vw7 (c2 * 93 + i2 * 3 + 2)
            go_simp
            have hg8 := grown_tr gw7 (grown_put w7 nb c2 i2 (some (ua, ub))) (fun r e => Or.inr (by cases e; rfl))
            have F8 := Fw7.put c2 i2 (by omega) (by omega) (some (ua, ub))
            have V8 : Wri (putC w7 nb c2 i2 (some (ua, ub))) nb := fun o => (putC_frozen w7 nb c2 i2 _ _).trans (Vw7 o)
            refine hK.out _ _ (hAll.out (putC w7 nb c2 i2 (some (ua, ub))) hg8) (fun hS5 => ?_)
            clear hK K l0 l1 l2 v0 v1 v2 Fw7 Vw7
            refine wpAnyH_done (by kernel_rfl) ?_ _
            rw [addF_eq, show bump false (p1, p2) = (p1, p2) from rfl, Hab.out] at hnew
            gi_wp2
            go_roundw
            case rel =>
              refine ⟨k + 1, by omega, by simp, grown_tr hgq hg8 (fun r e => Or.inr (by cases e; rfl)), V8, _, F8, hnew.congr fun t n => ?_⟩
              constructor
              · rintro ((h | h) | h)
                · exact Or.inl h
                · exact Or.inr ((hts _).2 (Or.inl h))
                · exact Or.inr ((hts _).2 (Or.inr h))
              · rintro (h | h)
                · exact Or.inl (Or.inl h)
                · rcases (hts _).1 h with h | h
                  · exact Or.inl (Or.inr h)
                  · exact Or.inr h
            case measure => simp [intOf]; omega
          | true =>
            gi_wp2_with fail
            have hd0 : (w4.alloc (.cells #[.int .i64 (p1 + 1), .int .i64 (p2 + 1), .bool true] 118)).cell? ⟨w4.heap.size, 0, none⟩ = some (.int .i64 (p1 + 1)) := by simp [go_sem]
            have hd1 : (w4.alloc (.cells #[.int .i64 (p1 + 1), .int .i64 (p2 + 1), .bool true] 118)).cell? ⟨w4.heap.size, 1, none⟩ = some (.int .i64 (p2 + 1)) := by simp [go_sem]
            have hd2 : (w4.alloc (.cells #[.int .i64 (p1 + 1), .int .i64 (p2 + 1), .bool true] 118)).cell? ⟨w4.heap.size, 2, none⟩ = some (.bool true) := by simp [go_sem]
            have hbq : Below w4.heap.size w4 (w4.alloc (.cells #[.int .i64 (p1 + 1), .int .i64 (p2 + 1), .bool true] 118)) := (Below.refl _ _).alloc (Nat.le_refl _) _
            generalize w4.alloc (.cells #[.int .i64 (p1 + 1), .int .i64 (p2 + 1), .bool true] 118) = wq at hd0 hd1 hd2 hbq ⊢
            have hzq := hbq.size
            have t0q := (hbq.cell (p := ⟨w3.heap.size, 0, none⟩) s41).trans t0
            have t1q := (hbq.cell (p := ⟨w3.heap.size, 1, none⟩) s41).trans t1
            have F00 : Fld wq nb G2 := hF3.below hbq (by omega)
            have F0 : Fld wq.drew nb G2 := F00
            have V00 : Wri wq nb := hW3.below hbq (by omega)
            have V0 : Wri wq.drew nb := V00
            clear F00 V00
            have hgq : W2.grownBy wq (some nb) := grown_below hg4 (hbq.mono (by omega))
            obtain ⟨ua, ub, hab⟩ : ∃ ua ub, withC (G2 ((c2 : Int), (i2 : Int))) (some ((p1 + 1), (p2 + 1))) = some (ua, ub) := by rcases G2 ((c2 : Int), (i2 : Int)) with _ | ⟨x, y⟩ <;> exact ⟨_, _, rfl⟩
            have hwith := fun W => with_any' (G2 ((c2 : Int), (i2 : Int))) (some ((p1 + 1), (p2 + 1))) W
            rw [hab] at hwith
            simp only [fC_some0, fC_some1, fC_some2] at hwith
            have Hab := Lib.hid hab
            clear hab
            have hAll : Aside (∀ W, wq.grownBy W (some nb) → (wq.grownBy W (some nb) ∧ W.cell? ⟨w3.heap.size, 0, none⟩ = some (.int .i64 (c2 : Int)) ∧ W.cell? ⟨w3.heap.size, 1, none⟩ = some (.int .i64 (i2 : Int)) ∧ W.cell? ⟨w4.heap.size, 0, none⟩ = some (.int .i64 (p1 + 1)) ∧ W.cell? ⟨w4.heap.size, 1, none⟩ = some (.int .i64 (p2 + 1)) ∧ W.cell? ⟨w4.heap.size, 2, none⟩ = some (.bool true))) := fun W h => ⟨h, gcell h t0q (by omega), gcell h t1q (by omega), gcell h hd0 (by omega), gcell h hd1 (by omega), gcell h hd2 (by omega)⟩
            refine region_lift (S := fun W => wq.grownBy W (some nb) ∧ W.cell? ⟨w3.heap.size, 0, none⟩ = some (.int .i64 (c2 : Int)) ∧ W.cell? ⟨w3.heap.size, 1, none⟩ = some (.int .i64 (i2 : Int)) ∧ W.cell? ⟨w4.heap.size, 0, none⟩ = some (.int .i64 (p1 + 1)) ∧ W.cell? ⟨w4.heap.size, 1, none⟩ = some (.int .i64 (p2 + 1)) ∧ W.cell? ⟨w4.heap.size, 2, none⟩ = some (.bool true)) hF (by kernel_rfl) (by kernel_rfl) ?_ (hAll.out _ (grown_drew _ _)) (fun hS0 => ?_)
            · rintro ⟨_, _, h⟩; exact h
            (try go_simp)
            refine wpAnyH_take (i := 0) (v := ?_) rfl (by kernel_rfl) (by kernel_rfl) (by kernel_rfl) (fun _ _ _ h => h) (Or.inl ⟨by rfl, ?_⟩) hS0 ?_
            rotate_left
            · (intro W hSw; (try dsimp only at hSw); go_split_ands; go_simp; (try with_reducible rfl))
            (try go_simp)
            (try go_simp)
            refine wpAnyH_take (i := 2) (v := ?_) rfl (by kernel_rfl) (by kernel_rfl) (by kernel_rfl) (fun _ _ _ h => h) (Or.inl ⟨by rfl, ?_⟩) hS0 ?_
            rotate_left
            · (intro W hSw; (try dsimp only at hSw); go_split_ands; go_simp; (try with_reducible rfl))
            (try go_simp)
            (try go_simp)
            refine wpAnyH_take (i := 6) (v := ?_) rfl (by kernel_rfl) (by kernel_rfl) (by kernel_rfl) (fun _ _ _ h => h) (Or.inl ⟨by rfl, ?_⟩) hS0 ?_
            rotate_left
            · (intro W hSw; (try dsimp only at hSw); go_split_ands; go_simp; (try with_reducible rfl))
            (try go_simp)
            refine wpAnyH_ready (rs := [1]) (by kernel_rfl) (by simp) ?_
            refine (AllReadyH.cons rfl (fun K hK => ?_) AllReadyH.nil)
            go_simp
            go_wp2_with (go_at_call 81; refine (at_any nb c2 i2 hc2 hi2 _).mono ?_; rintro e w5 ⟨rfl, hbw5⟩; have gw5 : wq.grownBy w5 (some nb) := grown_below (grown_drew wq (some nb)) (hbw5.mono ((grown_drew wq (some nb))).size); have Fw5 := (F0).below hbw5 (by have := ((grown_drew wq (some nb))).size; omega); have Vw5 := (V0).below hbw5 (by have := ((grown_drew wq (some nb))).size; omega))
            refine hK.out _ _ (hAll.out _ gw5) (fun hS1 => ?_)
            clear hK K
            (try go_simp)
            refine wpAnyH_ready (rs := [3]) (by kernel_rfl) (by simp) ?_
            refine (AllReadyH.cons rfl (fun K hK => ?_) AllReadyH.nil)
            go_simp
            go_wp2_with (go_at_call 81; refine (at_any nb c2 i2 hc2 hi2 _).mono ?_; rintro e w6 ⟨rfl, hbw6⟩; have gw6 : wq.grownBy w6 (some nb) := grown_below gw5 (hbw6.mono (gw5).size); have Fw6 := (Fw5).below hbw6 (by have := (gw5).size; omega); have Vw6 := (Vw5).below hbw6 (by have := (gw5).size; omega))
            refine hK.out _ _ (hAll.out _ gw6) (fun hS2 => ?_)
            clear hK K
            (try go_simp)
            (try go_simp)
            refine wpAnyH_take (i := 4) (v := ?_) rfl (by kernel_rfl) (by kernel_rfl) (by kernel_rfl) (fun _ _ _ h => h) (Or.inl ⟨by rfl, ?_⟩) hS2 ?_
            rotate_left
            · (intro W hSw; (try dsimp only at hSw); go_split_ands; go_simp; (try with_reducible rfl))
            (try go_simp)
            refine wpAnyH_ready (rs := [5]) (by kernel_rfl) (by simp) ?_
            refine (AllReadyH.cons rfl (fun K hK => ?_) AllReadyH.nil)
            go_simp
            have l0 := Fw6 c2 i2 0 (by omega) (by omega) (by omega)
            have l1 := Fw6 c2 i2 1 (by omega) (by omega) (by omega)
            have l2 := Fw6 c2 i2 2 (by omega) (by omega) (by omega)
            simp only [Nat.add_zero] at l0 l1 l2
            go_simp
            clear l0 l1 l2
            refine hK.out _ _ (hAll.out _ gw6) (fun hS3 => ?_)
            clear hK K
            (try go_simp)
            refine wpAnyH_ready (rs := [7]) (by kernel_rfl) (by simp) ?_
            refine (AllReadyH.cons rfl (fun K hK => ?_) AllReadyH.nil)
            go_simp
            go_wp2_with (go_at_call 90; refine (hwith _).mono ?_; rintro e w7 ⟨rfl, hbw7⟩; have gw7 : wq.grownBy w7 (some nb) := grown_below gw6 (hbw7.mono (gw6).size); have Fw7 := (Fw6).below hbw7 (by have := (gw6).size; omega); have Vw7 := (Vw6).below hbw7 (by have := (gw6).size; omega))
            refine hK.out _ _ (hAll.out _ gw7) (fun hS4 => ?_)
            clear hK K
            (try go_simp)
            (try go_simp)
            refine wpAnyH_take (i := 8) (v := ?_) rfl (by kernel_rfl) (by kernel_rfl) (by kernel_rfl) (fun _ _ _ h => h) (Or.inl ⟨by rfl, ?_⟩) hS4 ?_
            rotate_left
            · (intro W hSw; (try dsimp only at hSw); go_split_ands; go_simp; (try with_reducible rfl))
            (try go_simp)
            refine wpAnyH_ready (rs := [9]) (by kernel_rfl) (by simp) ?_
            refine (AllReadyH.cons rfl (fun K hK => ?_) AllReadyH.nil)
            go_simp
            have l0 := Fw7 c2 i2 0 (by omega) (by omega) (by omega)
            have l1 := Fw7 c2 i2 1 (by omega) (by omega) (by omega)
            have l2 := Fw7 c2 i2 2 (by omega) (by omega) (by omega)
            simp only [Nat.add_zero] at l0 l1 l2
            have v0 := Vw7 (c2 * 93 + i2 * 3)
            have v1 := Vw7 (c2 * 93 + i2 * 3 + 1)
            have v2 := Vw7 (c2 * 93 + i2 * 3 + 2)
            go_simp
            have hg8 := grown_tr gw7 (grown_put w7 nb c2 i2 (some (ua, ub))) (fun r e => Or.inr (by cases e; rfl))
            have F8 := Fw7.put c2 i2 (by omega) (by omega) (some (ua, ub))
            have V8 : Wri (putC w7 nb c2 i2 (some (ua, ub))) nb := fun o => (putC_frozen w7 nb c2 i2 _ _).trans (Vw7 o)
            refine hK.out _ _ (hAll.out (putC w7 nb c2 i2 (some (ua, ub))) hg8) (fun hS5 => ?_)
            clear hK K l0 l1 l2 v0 v1 v2 Fw7 Vw7
            refine wpAnyH_done (by kernel_rfl) ?_ _
            rw [addF_eq, show bump true (p1, p2) = ((p1 + 1), (p2 + 1)) from rfl, Hab.out] at hnew
            gi_wp2
            go_roundw
            case rel =>
              refine ⟨k + 1, by omega, by simp, grown_tr hgq hg8 (fun r e => Or.inr (by cases e; rfl)), V8, _, F8, hnew.congr fun t n => ?_⟩
              constructor
              · rintro ((h | h) | h)
                · exact Or.inl h
                · exact Or.inr ((hts _).2 (Or.inl h))
                · exact Or.inr ((hts _).2 (Or.inr h))
              · rintro (h | h)
                · exact Or.inl (Or.inl h)
                · rcases (hts _).1 h with h | h
                  · exact Or.inl (Or.inr h)
                  · exact Or.inr h
            case measure => simp [intOf]; omega
      · obtain rfl : k = ks.length := by omega
        gi_wp2
        refine ⟨KeepsFrom.of_grownBy hgr.out (fun j e => by cases e; omega), (Below.refl _ _).grown hgr.out (by omega) (fun k e => by cases e; omega), grown_tr hg2 hgr.out (fun r e => Or.inr (by cases e; rfl)), hwk.out, G2, hFk.out, hRk.out.congr fun t n => ?_⟩
        rw [preC_snoc, List.take_length]
  case done =>
    rintro D W hD ⟨hgw, hwr, G', hF', hR'⟩ hK
    gi_wp2
    refine ⟨by simp, .inl ⟨_, _, rfl, run_takeDeferred hK, ?_⟩⟩
    have ht := Turn.putObj (B := D) (.deferred none) (Nat.le_refl D) hK rfl
    have hz := ht.size
    have hgz := hgw.size
    refine ⟨_, results_tmp rfl _ _ _, nb, G', rfl, by omega, by omega, hF'.same (ht.blk (hF' 0 0 0 (by omega) (by omega) (by omega))), hwr.same (ht.blk (hF' 0 0 0 (by omega) (by omega) (by omega))), hR'.congr fun t n => by rw [← hks]; exact preC_all hr hC hin t n, ?_⟩
    exact (hB1.grown hgw (by omega) (fun k e => by cases e; omega)).trans (ht.below.mono (by omega))


end Go.Proofs.Ytlkecgjpmnganaa
