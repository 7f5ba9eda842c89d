/- Thaw: all counts of a field; sets behind weather. -/
import Derived.Test.YtlkecgjpmnganaaThHour
import Derived.Test.YtlkecgjpmnganaaThCheck
set_option linter.unusedSimpArgs false
set_option linter.unusedVariables false
namespace Go.Proofs.Ytlkecgjpmnganaa
open Go.RowKit Go.Shelf

theorem sumC_rep {C : Cs} (l : List (St × (Int × Int))) (h : ∀ x ∈ l, Rep1 (some x.2) (C x.1)) : Rep1 (sumC l) (fun n => ∃ x ∈ l, C x.1 n) := by
  have key : ∀ (l : List (St × (Int × Int))) (o : Option (Int × Int)) (D : Int → Prop), Rep1 o D → (∀ x ∈ l, Rep1 (some x.2) (C x.1)) → Rep1 (l.foldl (fun s x => withC s (some x.2)) o) (fun n => D n ∨ ∃ x ∈ l, C x.1 n) := by
    intro l
    induction l with
    | nil => intro o D ho _; exact ho.congr fun n => by simp
    | cons x l ih =>
      intro o D ho hl
      have h1 := ih _ _ (ho.with (hl x (by simp))) (fun y hy => hl y (List.mem_cons_of_mem _ hy))
      refine h1.congr fun n => ?_
      constructor
      · rintro ((h | h) | ⟨y, hy, h⟩)
        · exact Or.inl h
        · exact Or.inr ⟨x, by simp, h⟩
        · exact Or.inr ⟨y, List.mem_cons_of_mem _ hy, h⟩
      · rintro (h | ⟨y, hy, h⟩)
        · exact Or.inl (Or.inl h)
        · rcases List.mem_cons.1 hy with rfl | hy
          · exact Or.inl (Or.inr h)
          · exact Or.inr ⟨y, hy, h⟩
  exact (key l none (fun _ => False) (fun n h => h) h).congr fun n => by simp

theorem in_nat {r : TR} (hr : TROk r) {s : St} (h : stIn r s) : ∃ c i : Nat, c < 61 ∧ i < 31 ∧ s = ((c : Int), (i : Int)) := by
  obtain ⟨h1, h2, h3, h4⟩ := h
  have := hr.u2; have := hr.m2
  obtain ⟨a, b⟩ := s
  simp only at h1 h2 h3 h4
  obtain ⟨a, rfl⟩ := Int.eq_ofNat_of_zero_le h1
  obtain ⟨b, rfl⟩ := Int.eq_ofNat_of_zero_le h3
  exact ⟨a, b, by omega, by omega, rfl⟩

theorem all_rep {r : TR} (hr : TROk r) {C : Cs} {G : Fl} (hC : Rep G C) (hin : CIn r C) : Rep1 (sumC (come G 1891)) (anyC C) := by
  have hmem : ∀ x ∈ come G 1891, G x.1 = some x.2 := by
    intro x hx
    unfold come at hx
    obtain ⟨j, hj, e⟩ := List.mem_filterMap.1 hx
    obtain ⟨p, hp, rfl⟩ := Option.map_eq_some_iff.1 e
    exact hp
  have hall : ∀ s n, C s n → ∃ p, (s, p) ∈ come G 1891 := by
    intro s n h
    obtain ⟨c, i, hc, hi, rfl⟩ := in_nat hr (hin s n h)
    have hs := hC ((c : Int), (i : Int))
    cases hq : G ((c : Int), (i : Int)) with
    | none => rw [hq] at hs; exact absurd h (hs n)
    | some p => exact ⟨p, mem_come hc hi hq⟩
  generalize come G 1891 = L at hmem hall ⊢
  refine (sumC_rep (C := C) L fun x hx => by have := hC x.1; rwa [hmem x hx] at this).congr fun n => ?_
  constructor
  · rintro ⟨x, _, h⟩
    exact ⟨x.1, h⟩
  · rintro ⟨s, h⟩
    obtain ⟨p, hp⟩ := hall s n h
    exact ⟨_, hp, h⟩

def pr (t : R) : Int × Int := (t.lo, t.hi)

theorem thruC_bd (r : TR) : ∀ (w : List (Int × Int)) (C : Cs) (B : Int), (∀ s n, C s n → 0 ≤ n ∧ n ≤ B) → ∀ s n, thruC r w C s n → 0 ≤ n ∧ n ≤ B + w.length
  | [], _, _, h => fun s n k => by have := h s n k; simp; exact this
  | t :: w, _, B, h => fun s n k => by
    have := thruC_bd r w _ (B + 1) (hourC_bd h t.1 t.2 _) s n k
    simp only [List.length_cons]
    omega

theorem hourC_some {r : TR} (hr : TROk r) {C : Cs} {lo hi : Int} (hl : lo ≤ hi) (h : ∃ n, anyC C n) : ∃ n, anyC (hourC r lo hi (fun _ => true) C) n := by
  obtain ⟨n, s, hs⟩ := h
  obtain ⟨k, hk⟩ := List.exists_mem_of_ne_nil _ (kindsT_ne hr hl)
  exact ⟨_, _, s, k, hk, rfl, rfl, n, hs, rfl⟩

theorem thruC_some {r : TR} (hr : TROk r) : ∀ (w : List (Int × Int)) {C : Cs}, (∀ t ∈ w, t.1 ≤ t.2) → (∃ n, anyC C n) → ∃ n, anyC (thruC r w C) n
  | [], _, _, h => h
  | t :: w, _, hw, h => thruC_some hr w (fun x hx => hw x (List.mem_cons_of_mem _ hx)) (hourC_some hr (hw t (by simp)) h)

theorem oneC_bd (s : St) : ∀ t n, oneC s t n → 0 ≤ n ∧ n ≤ 0 := by rintro t n ⟨_, rfl⟩; omega
theorem one_rep (s : St) : Rep (setF (fun _ => none) s (some (0, 0))) (oneC s) := by
  intro t
  unfold setF oneC
  by_cases e : t = s
  · rw [if_pos e]; exact ⟨⟨e, rfl⟩, ⟨e, rfl⟩, fun n h => by have := h.2; omega⟩
  · rw [if_neg e]; exact fun n h => e h.1

theorem okT_le {t : R} (h : okT t = true) : t.lo ≤ t.hi := by
  simp [okT] at h; exact h.1
theorem okT_all {ts : List R} (h : ts.all okT = true) : ∀ t ∈ ts.map pr, t.1 ≤ t.2 := by
  intro t ht
  obtain ⟨x, hx, rfl⟩ := List.mem_map.1 ht
  exact okT_le (List.all_eq_true.1 h x hx)

/-- no error means -/
theorem errT_ok {r : TR} {c i : Int} {ts : List R} (h : errT r c i ts = 0) : TROk r ∧ stIn r (c, i) ∧ ts.length ≤ 1000 ∧ ts.all okT = true := by
  unfold errT at h
  split at h
  · rename_i h1
    split at h
    · cases h
    · rename_i h2
      split at h
      · rename_i h3
        simp only [Bool.and_eq_true] at h1
        exact ⟨(okRules_iff r).1 h1.1, (okSt_iff r c i).1 h1.2, by omega, h3⟩
      · cases h
  · cases h

theorem anything_pred (w : World) : PredB Try.prog 89 #[] Value.bool (fun _ => true) w := by
  intro x W _
  show Calls _ _ #[.bool x] _ _
  go_enter Try.func89, Try.ntmps89
  go_wp2
  go_ret
  exact ⟨rfl, (by (try show Below _ _ _); repeat (first | (with_reducible refine Below.setCell ?_ (by first | omega | (simp <;> omega)) _) | (with_reducible refine Below.alloc ?_ (by first | omega | (simp <;> omega)) _) | (with_reducible refine Below.drew ?_) | (with_reducible exact Below.refl _ _) | (with_reducible refine below_call ?_ (by assumption) (by first | omega | (simp <;> omega))) | (with_reducible refine below_call ?_ (Drew.below (by assumption) _) (by first | omega | (simp <;> omega)))))⟩

theorem ran_pred (w : World) : PredB Try.prog 75 #[] Value.bool (fun b => b) w := by
  intro x W _
  show Calls _ _ #[.bool x] _ _
  go_enter Try.func75, Try.ntmps75
  go_wp2
  go_ret
  exact ⟨rfl, (by (try show Below _ _ _); repeat (first | (with_reducible refine Below.setCell ?_ (by first | omega | (simp <;> omega)) _) | (with_reducible refine Below.alloc ?_ (by first | omega | (simp <;> omega)) _) | (with_reducible refine Below.drew ?_) | (with_reducible exact Below.refl _ _) | (with_reducible refine below_call ?_ (by assumption) (by first | omega | (simp <;> omega))) | (with_reducible refine below_call ?_ (Drew.below (by assumption) _) (by first | omega | (simp <;> omega)))))⟩

theorem dry_pred (w : World) : PredB Try.prog 76 #[] Value.bool (fun b => !b) w := by
  intro x W _
  show Calls _ _ #[.bool x] _ _
  go_enter Try.func76, Try.ntmps76
  go_wp2
  go_ret
  exact ⟨rfl, (by (try show Below _ _ _); repeat (first | (with_reducible refine Below.setCell ?_ (by first | omega | (simp <;> omega)) _) | (with_reducible refine Below.alloc ?_ (by first | omega | (simp <;> omega)) _) | (with_reducible refine Below.drew ?_) | (with_reducible exact Below.refl _ _) | (with_reducible refine below_call ?_ (by assumption) (by first | omega | (simp <;> omega))) | (with_reducible refine below_call ?_ (Drew.below (by assumption) _) (by first | omega | (simp <;> omega)))))⟩

set_option maxHeartbeats 400000 in
theorem hours_any (o : Option (Int × Int)) (w : World) :
    Calls Try.prog 67 #[cV o] w fun e w' => e = .returned (.agg #[fC o 0, fC o 1]) ∧ Below w.heap.size w w' := by
  rcases o with _ | ⟨x, y⟩
  · unfold cV
    dsimp only [fC]
    go_enter Try.func67, Try.ntmps67
    go_wp2
    refine bodyPost_ret (v := .agg #[.int .i64 0, .int .i64 0]) (by simp [results, Try.results67, go_sem]) rfl ⟨rfl, (by (try show Below _ _ _); repeat (first | (with_reducible refine Below.setCell ?_ (by first | omega | (simp <;> omega)) _) | (with_reducible refine Below.alloc ?_ (by first | omega | (simp <;> omega)) _) | (with_reducible refine Below.drew ?_) | (with_reducible exact Below.refl _ _) | (with_reducible refine below_call ?_ (by assumption) (by first | omega | (simp <;> omega))) | (with_reducible refine below_call ?_ (Drew.below (by assumption) _) (by first | omega | (simp <;> omega)))))⟩
  · unfold cV
    dsimp only [fC]
    go_enter Try.func67, Try.ntmps67
    go_wp2
    refine bodyPost_ret (v := .agg #[.int .i64 x, .int .i64 y]) (by simp [results, Try.results67, go_sem]) rfl ⟨rfl, (by (try show Below _ _ _); repeat (first | (with_reducible refine Below.setCell ?_ (by first | omega | (simp <;> omega)) _) | (with_reducible refine Below.alloc ?_ (by first | omega | (simp <;> omega)) _) | (with_reducible refine Below.drew ?_) | (with_reducible exact Below.refl _ _) | (with_reducible refine below_call ?_ (by assumption) (by first | omega | (simp <;> omega))) | (with_reducible refine below_call ?_ (Drew.below (by assumption) _) (by first | omega | (simp <;> omega)))))⟩

/-- behind weather -/
def ThruPost (w : World) (C : Cs) (e : Ending) (w' : World) : Prop := ∃ b' G', e = .returned (.pointer (some ⟨b', 0, none⟩)) ∧ b' < w'.heap.size ∧ Fld w' b' G' ∧ Rep G' C ∧ Below w.heap.size w w'

set_option maxHeartbeats 1000000 in
theorem through_any (r : TR) (hr : TROk r) (b : Nat) (G : Fl) (C : Cs) (lo : Nat) (A : Option Addr) (n cc : Nat) (ts : List R) (B : Int) (w : World) (hb : b < w.heap.size) (hG : Fld w b G) (hC : Rep G C) (hin : CIn r C) (hbd : ∀ s n, C s n → 0 ≤ n ∧ n ≤ B)
    (hx : Ranges w lo A ts) (hn : Aside (ts.length = n)) (hl : B + n ≤ 100000) (hl2 : n ≤ 1000) :
    Calls Try.prog 64 #[rV r, .pointer (some ⟨b, 0, none⟩), .slice A n cc] w (ThruPost w (thruC r (ts.map pr) C)) := by
  have eg : Enters Try.prog 89 := enters_of Try.func89 (by kernel_rfl) rfl
  have hH := fun b G C lo hi W h1 h2 h3 h4 h5 => hour_any r hr b G C lo hi 89 #[] (fun _ => true) W h1 h2 h3 h4 h5 eg (anything_pred W)
  have hrv : rV r = .agg #[.int .i64 r.frost, .int .i64 r.thaw, .int .i64 r.gain, .int .i64 r.full, .int .i64 r.ice, .int .i64 r.most, .int .i64 r.melt, .int .i64 r.rlow, .int .i64 r.rhigh, .int .i64 r.pull] := rfl
  rw [hrv] at hH ⊢
  have HC : Aside (Rep G C ∧ Fld w b G ∧ b < w.heap.size) := ⟨hC, hG, hb⟩
  have HI : Aside (∀ k, CIn r (thruC r ((ts.take k).map pr) C)) := fun k => thruC_in hr _ hin
  have HB : Aside (∀ k, k ≤ n → ∀ s m, thruC r ((ts.take k).map pr) C s m → 0 ≤ m ∧ m ≤ 100000) := fun k hk s m h => by
    have := thruC_bd r _ _ B hbd s m h
    have h2 : ((ts.take k).map pr).length ≤ k := by simp; omega
    omega
  have HX : Aside (Ranges w lo A ts) := hx
  clear hC hin hbd hx hG hb eg
  go_enter Try.func64, Try.ntmps64
  go_wp2
  go_loopg [1, 11] (n) (fun gg f i wr => ∃ (k b' : Nat) (G' : Fl), k ≤ n ∧ n - k ≤ gg ∧ i = .int .i64 k ∧ f = .pointer (some ⟨b', 0, none⟩) ∧ Aside (b' < wr.heap.size ∧ Fld wr b' G' ∧ Rep G' (thruC r ((ts.take k).map pr) C)) ∧ Aside (Below w.heap.size w wr ∧ w.heap.size < wr.heap.size) ∧
    Aside (∀ j v, (w.alloc (.cells #[.int .i64 r.frost, .int .i64 r.thaw, .int .i64 r.gain, .int .i64 r.full, .int .i64 r.ice, .int .i64 r.most, .int .i64 r.melt, .int .i64 r.rlow, .int .i64 r.rhigh, .int .i64 r.pull] 109)).cell? ⟨w.heap.size, j, none⟩ = some v → wr.cell? ⟨w.heap.size, j, none⟩ = some v))
  case atStart =>
    exact ⟨0, b, G, Nat.zero_le _, Nat.le_refl _, rfl, rfl, ⟨by have := HC.out.2.2; simp; omega, HC.out.2.1.below ((Below.refl w.heap.size w).alloc (Nat.le_refl _) _) HC.out.2.2, HC.out.1⟩, ⟨(by (try show Below _ _ _); repeat (first | (with_reducible refine Below.setCell ?_ (by first | omega | (simp <;> omega)) _) | (with_reducible refine Below.alloc ?_ (by first | omega | (simp <;> omega)) _) | (with_reducible refine Below.drew ?_) | (with_reducible exact Below.refl _ _) | (with_reducible refine below_call ?_ (by assumption) (by first | omega | (simp <;> omega))) | (with_reducible refine below_call ?_ (Drew.below (by assumption) _) (by first | omega | (simp <;> omega))))), by simp⟩, fun j v h => h⟩
  case round =>
    obtain ⟨k, b', G', hk, hg, rfl, rfl, hF, hB, hR⟩ := hrel
    obtain ⟨hB1, hB2⟩ := hB.out
    by_cases hlt : k < n
    · obtain ⟨bb, oo, hA, _, hlb, hcs⟩ := HX.out (by have := hn.out; omega)
      subst hA
      have e0 := (hB1.cell (p := ⟨bb, oo + k * 2 + 0, none⟩) hlb).trans (hcs k 0 (by have := hn.out; omega) (by omega))
      have e1 := (hB1.cell (p := ⟨bb, oo + k * 2 + 1, none⟩) hlb).trans (hcs k 1 (by have := hn.out; omega) (by omega))
      have hsn : (ts.take (k + 1)).map pr = (ts.take k).map pr ++ [pr (ts[k]?.getD R.d)] := by
        have hk2 : k < ts.length := by have := hn.out; omega
        rw [List.take_succ_eq_append_getElem hk2, List.map_append, List.getElem?_eq_getElem hk2]; rfl
      generalize ts[k]?.getD R.d = t at e0 e1 hsn
      obtain ⟨tl, th⟩ := t
      simp only [R.cell, Nat.add_zero, if_true, Nat.one_ne_zero, if_false] at e0 e1
      have Hsn := Lib.hid hsn
      clear hsn hcs
      have hltz : (k : Int) < (n : Int) := by omega
      have hi0 : (0 : Int) ≤ (k : Int) := Int.natCast_nonneg _
      have hlbr : bb < wr.heap.size := by omega
      have q0 := hR.out 0 (.int .i64 r.frost) (by simp [go_sem])
      have q1 := hR.out 1 (.int .i64 r.thaw) (by simp [go_sem])
      have q2 := hR.out 2 (.int .i64 r.gain) (by simp [go_sem])
      have q3 := hR.out 3 (.int .i64 r.full) (by simp [go_sem])
      have q4 := hR.out 4 (.int .i64 r.ice) (by simp [go_sem])
      have q5 := hR.out 5 (.int .i64 r.most) (by simp [go_sem])
      have q6 := hR.out 6 (.int .i64 r.melt) (by simp [go_sem])
      have q7 := hR.out 7 (.int .i64 r.rlow) (by simp [go_sem])
      have q8 := hR.out 8 (.int .i64 r.rhigh) (by simp [go_sem])
      have q9 := hR.out 9 (.int .i64 r.pull) (by simp [go_sem])
      go_wp2_with fail
      refine Calls.mono (hH b' G' _ tl th _ ?_ ?_ hF.out.2.2 (HI.out k) (HB.out k hk)) ?_
      · have := hF.out.1; simp; omega
      · exact hF.out.2.1.below ((Below.refl wr.heap.size wr).alloc (Nat.le_refl _) _) hF.out.1
      rintro e w3 ⟨b3, G3, rfl, hb3a, hb3b, hF3, hW3, hR3, hb3⟩
      have hz3 := hb3.size
      simp only [World.size_alloc] at hz3
      go_wp2
      go_roundg (n - (k + 1))
      case measure => omega
      case rel =>
        refine ⟨k + 1, b3, G3, by omega, by omega, by go_num, rfl, ⟨hb3b, hF3, ?_⟩, ⟨(by (try show Below _ _ _); repeat (first | (with_reducible refine Below.setCell ?_ (by first | omega | (simp <;> omega)) _) | (with_reducible refine Below.alloc ?_ (by first | omega | (simp <;> omega)) _) | (with_reducible refine Below.drew ?_) | (with_reducible exact Below.refl _ _) | (with_reducible exact hB1) | (with_reducible refine below_call ?_ (by assumption) (by first | omega | (simp <;> omega))) | (with_reducible refine below_call ?_ (Drew.below (by assumption) _) (by first | omega | (simp <;> omega))))), by omega⟩, fun j v h => ?_⟩
        · rw [Hsn.out, thruC_snoc]; exact hR3
        · exact (hb3.cell (p := ⟨w.heap.size, j, none⟩) (by show w.heap.size < _; simp; omega)).trans (al_cell _ (hR.out j v h))
    · have hltz : ¬ (k : Int) < (n : Int) := by omega
      obtain rfl : k = n := by omega
      go_wp2
      go_ret
      refine ⟨b', G', rfl, hF.out.1, hF.out.2.1, ?_, hB1⟩
      have := hF.out.2.2
      rwa [List.take_of_length_le (by have := hn.out; omega)] at this


end Go.Proofs.Ytlkecgjpmnganaa
