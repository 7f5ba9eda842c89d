/- Contracts: span.made, check, over, Scale, Times, Over, Sum, Less, fold, Meet, Hull, AtMost. -/
import Derived.Test.YtlkecgjpmnganaaRange
set_option linter.unusedSimpArgs false
set_option linter.unusedVariables false
namespace Go.Proofs.Ytlkecgjpmnganaa
open Go.RowKit Go.Shelf

/-- a range of one element as a list in memory -/
theorem Elems.of1 {W : World} {b : Nat} {x y : Int} (h0 : W.cell? ⟨b, 0, none⟩ = some (.int .i64 x)) (h1 : W.cell? ⟨b, 1, none⟩ = some (.int .i64 y)) (hb : b < W.heap.size) : Ranges W 0 (some ⟨b, 0, none⟩) [⟨x, y⟩] := by
  intro _
  refine ⟨_, _, rfl, Nat.zero_le _, hb, fun j i hj hi => ?_⟩
  obtain rfl : j = 0 := by simpa using hj
  have : i = 0 ∨ i = 1 := by omega
  rcases this with rfl | rfl
  · simpa [R.cell] using h0
  · simpa [R.cell] using h1
theorem Elems.of2 {W : World} {b : Nat} {x y u v : Int} (h0 : W.cell? ⟨b, 0, none⟩ = some (.int .i64 x)) (h1 : W.cell? ⟨b, 1, none⟩ = some (.int .i64 y)) (h2 : W.cell? ⟨b, 2, none⟩ = some (.int .i64 u)) (h3 : W.cell? ⟨b, 3, none⟩ = some (.int .i64 v)) (hb : b < W.heap.size) : Ranges W 0 (some ⟨b, 0, none⟩) [⟨x, y⟩, ⟨u, v⟩] := by
  intro _
  refine ⟨_, _, rfl, Nat.zero_le _, hb, fun j i hj hi => ?_⟩
  have : j = 0 ∨ j = 1 := by simp at hj; omega
  have : i = 0 ∨ i = 1 := by omega
  rcases ‹j = 0 ∨ j = 1› with rfl | rfl <;> rcases ‹i = 0 ∨ i = 1› with rfl | rfl
  · simpa [R.cell] using h0
  · simpa [R.cell] using h1
  · simpa [R.cell] using h2
  · simpa [R.cell] using h3

def madeS (lo hi : Int) : R × Int := if okR ⟨lo, hi⟩ then (⟨lo, hi⟩, 0) else (⟨0, 0⟩, 10)
/-- a range and an error -/
def RE (x : R × Int) : Value := .tuple #[.agg #[.int .i64 x.1.lo, .int .i64 x.1.hi], .int .i64 x.2]

set_option maxHeartbeats 400000 in
theorem made_any (lo hi : Int) (w : World) :
    Calls Try.prog 97 #[.int .i64 lo, .int .i64 hi] w fun e w' => e = .returned (RE (madeS lo hi)) ∧ Below w.heap.size w w' := by
  have hW := fun (A : Option Addr) (W : World) h => isRange_any 0 A 1 1 [⟨lo, hi⟩] W h rfl one_le
  have e0 : [(⟨lo, hi⟩ : R)].all okR = okR ⟨lo, hi⟩ := by simp
  rw [e0] at hW
  unfold madeS RE
  generalize okR ⟨lo, hi⟩ = r at hW ⊢
  go_enter Try.func97, Try.ntmps97
  go_wp2_with fail
  refine (hW _ _ (Elems.of1 (by simp [go_sem]) (by simp [go_sem]) (by simp))).mono ?_
  rintro e w1 ⟨rfl, hb⟩
  obtain ⟨hc, hf⟩ := bcell hb
  clear hW
  cases r with
  | false =>
    go_wp2
    refine bodyPost_ret (v := .tuple #[.agg #[.int .i64 0, .int .i64 0], .int .i64 10]) (by simp [results, Try.results97, go_sem, hc, cell_set]) rfl ⟨rfl, (by (try show Below _ _ _); repeat (first | (with_reducible refine Below.setCell ?_ (by first | omega | (simp <;> omega)) _) | (with_reducible refine Below.alloc ?_ (by first | omega | (simp <;> omega)) _) | (with_reducible refine Below.drew ?_) | (with_reducible exact Below.refl _ _) | (with_reducible refine below_call ?_ (by assumption) (by first | omega | (simp <;> omega))) | (with_reducible refine below_call ?_ (Drew.below (by assumption) _) (by first | omega | (simp <;> omega)))))⟩
  | true =>
    go_wp2
    refine bodyPost_ret (v := .tuple #[.agg #[.int .i64 lo, .int .i64 hi], .int .i64 0]) (by simp [results, Try.results97, go_sem, hc, cell_set]) rfl ⟨rfl, (by (try show Below _ _ _); repeat (first | (with_reducible refine Below.setCell ?_ (by first | omega | (simp <;> omega)) _) | (with_reducible refine Below.alloc ?_ (by first | omega | (simp <;> omega)) _) | (with_reducible refine Below.drew ?_) | (with_reducible exact Below.refl _ _) | (with_reducible refine below_call ?_ (by assumption) (by first | omega | (simp <;> omega))) | (with_reducible refine below_call ?_ (Drew.below (by assumption) _) (by first | omega | (simp <;> omega)))))⟩

/-- a quotient a * b / c -/
structure Q3 where
  a : Int
  b : Int
  c : Int
def Q3.cell (q : Q3) (i : Nat) : Value := if i = 0 then .int .i64 q.a else if i = 1 then .int .i64 q.b else .int .i64 q.c
def Q3.d : Q3 := ⟨0, 0, 1⟩
/-- bounds that the code needs -/
def Q3.ok (q : Q3) : Prop := -9223372036854775808 < q.a ∧ q.a < 9223372036854775808 ∧ -9223372036854775808 < q.b ∧ q.b < 9223372036854775808 ∧ -9223372036854775808 < q.c ∧ q.c < 9223372036854775808 ∧ q.c ≠ 0
def Q3.rat (q : Q3) : Int × Int := if q.c < 0 then ratioS (-q.a) q.b (-q.c) else ratioS q.a q.b q.c
def overF (xs : List Q3) : Int × Int := xs.foldl (fun m q => (min m.1 q.rat.1, max m.2 q.rat.2)) (2000000000000000, -2000000000000000)
def overS (xs : List Q3) : R × Int := madeS (overF xs).1 (overF xs).2

theorem overF_snoc (xs : List Q3) (k : Nat) (hk : k < xs.length) : overF (xs.take (k + 1)) = (min (overF (xs.take k)).1 (xs[k]?.getD Q3.d).rat.1, max (overF (xs.take k)).2 (xs[k]?.getD Q3.d).rat.2) := by
  unfold overF
  rw [List.take_succ_eq_append_getElem hk, List.foldl_append]
  simp [List.getElem?_eq_getElem hk]

set_option maxHeartbeats 1000000 in
theorem over_any (lo : Nat) (A : Option Addr) (n c : Nat) (xs : List Q3) (w : World) (hx : Elems 3 Q3.cell Q3.d w lo A xs) (hn : Aside (xs.length = n)) (hl : n ≤ maxLen) (hok : Aside (∀ q ∈ xs, q.ok)) :
    Calls Try.prog 99 #[.slice A n c] w fun e w' => e = .returned (RE (overS xs)) ∧ Below w.heap.size w w' := by
  unfold maxLen at hl
  go_enter Try.func99, Try.ntmps99
  go_wp2
  obtain ⟨W1, hW1⟩ : ∃ W1, w.alloc (.cells #[.int .i64 0, .int .i64 0] 23) = W1 := ⟨_, rfl⟩
  have hsz : W1.heap.size = w.heap.size + 1 := by rw [← hW1]; simp
  have hB1 : Below w.heap.size w W1 := by rw [← hW1]; exact (Below.refl _ _).alloc (Nat.le_refl _) _
  have hr0 : W1.cell? ⟨w.heap.size, 0, none⟩ = some (.int .i64 0) := by rw [← hW1]; simp [go_sem]
  have hr1 : W1.cell? ⟨w.heap.size, 1, none⟩ = some (.int .i64 0) := by rw [← hW1]; simp [go_sem]
  have hrf : W1.frozen? ⟨w.heap.size, 0, none⟩ = false := by rw [← hW1]; simp [go_sem]
  have hrg : W1.frozen? ⟨w.heap.size, 1, none⟩ = false := by rw [← hW1]; simp [go_sem]
  rw [hW1]
  have Hsz := Lib.hid hsz
  have HX := Lib.hid (hx.below hB1 (Nat.le_refl _))
  clear hW1 hx hsz
  go_loopg [4, 5, 12] (n) (fun gg s4 s5 i wr => ∃ k : Nat, k ≤ n ∧ n - k ≤ gg ∧ i = .int .i64 k ∧ s4 = .int .i64 (overF (xs.take k)).1 ∧ s5 = .int .i64 (overF (xs.take k)).2 ∧ Aside (Below W1.heap.size W1 wr))
  case atStart => exact ⟨0, Nat.zero_le _, Nat.le_refl _, rfl, rfl, rfl, Below.refl _ _⟩
  case round =>
    obtain ⟨k, hk, hg, rfl, rfl, rfl, hb⟩ := hrel
    by_cases hlt : k < n
    · obtain ⟨b, o, rfl, _, hlb, hc⟩ := HX.out (by have := hn.out; omega)
      have hck0 := (hb.out.cell (p := ⟨b, o + k * 3 + 0, none⟩) hlb).trans (hc k 0 (by have := hn.out; omega) (by omega))
      have hck1 := (hb.out.cell (p := ⟨b, o + k * 3 + 1, none⟩) hlb).trans (hc k 1 (by have := hn.out; omega) (by omega))
      have hck2 := (hb.out.cell (p := ⟨b, o + k * 3 + 2, none⟩) hlb).trans (hc k 2 (by have := hn.out; omega) (by omega))
      have hltz : (k : Int) < (n : Int) := by omega
      have hmem : xs[k]?.getD Q3.d ∈ xs := by
        have hkx : k < xs.length := by have := hn.out; omega
        simp [List.getElem?_eq_getElem hkx]
      have hqok := hok.out _ hmem
      have hsn := overF_snoc xs k (by have := hn.out; omega)
      clear hc hmem
      generalize xs[k]?.getD Q3.d = q at hck0 hck1 hck2 hqok hsn
      obtain ⟨qa, qb, qc⟩ := q
      obtain ⟨k1, k2, k3, k4, k5, k6, k7⟩ := hqok
      simp only at k1 k2 k3 k4 k5 k6 k7
      simp only [Q3.cell, Nat.add_zero, if_true, Nat.one_ne_zero, if_false, Nat.reduceEqDiff] at hck0 hck1 hck2
      generalize hm' : overF (xs.take (k + 1)) = m' at hsn
      generalize overF (xs.take k) = m at hsn
      obtain ⟨m1, m2⟩ := m
      simp only [Q3.rat] at hsn
      have Hsn := Lib.hid hsn
      have Hm' := Lib.hid hm'
      clear hsn hm'
      by_cases hcn : qc < 0
      · have hrat := fun W => ratio_any (-qa) qb (-qc) (by omega) (by omega) (by omega) W
        go_wp2_with (go_at_call 103; refine (hrat _).mono ?_; rintro e w' ⟨rfl, hd⟩)
        all_goals
          have hbs := hb.out.size
          go_roundg (n - (k + 1))
          case measure => omega
          case rel =>
            refine ⟨k + 1, by omega, by omega, by go_num, ?_, ?_, (by (try show Below _ _ _); repeat (first | (with_reducible refine Below.setCell ?_ (by first | omega | (simp <;> omega)) _) | (with_reducible refine Below.alloc ?_ (by first | omega | (simp <;> omega)) _) | (with_reducible refine Below.drew ?_) | (with_reducible exact Below.refl _ _) | (with_reducible exact hb.out) | (with_reducible refine below_call ?_ (by assumption) (by first | omega | (simp <;> omega))) | (with_reducible refine below_call ?_ (Drew.below (by assumption) _) (by first | omega | (simp <;> omega)))))⟩
            · rw [Hm'.out, Hsn.out]; simp only [if_pos (show qc < 0 by omega)]; congr 1; omega
            · rw [Hm'.out, Hsn.out]; simp only [if_pos (show qc < 0 by omega)]; congr 1; omega
      · have hrat := fun W => ratio_any qa qb qc (by omega) (by omega) (by omega) W
        go_wp2_with (go_at_call 103; refine (hrat _).mono ?_; rintro e w' ⟨rfl, hd⟩)
        all_goals
          have hbs := hb.out.size
          go_roundg (n - (k + 1))
          case measure => omega
          case rel =>
            refine ⟨k + 1, by omega, by omega, by go_num, ?_, ?_, (by (try show Below _ _ _); repeat (first | (with_reducible refine Below.setCell ?_ (by first | omega | (simp <;> omega)) _) | (with_reducible refine Below.alloc ?_ (by first | omega | (simp <;> omega)) _) | (with_reducible refine Below.drew ?_) | (with_reducible exact Below.refl _ _) | (with_reducible exact hb.out) | (with_reducible refine below_call ?_ (by assumption) (by first | omega | (simp <;> omega))) | (with_reducible refine below_call ?_ (Drew.below (by assumption) _) (by first | omega | (simp <;> omega)))))⟩
            · rw [Hm'.out, Hsn.out]; simp only [if_neg (show ¬ qc < 0 by omega)]; congr 1; omega
            · rw [Hm'.out, Hsn.out]; simp only [if_neg (show ¬ qc < 0 by omega)]; congr 1; omega
    · have hltz : ¬ (k : Int) < (n : Int) := by omega
      have hke : k = n := by omega
      subst hke
      have hbs := hb.out.size
      have hxl : xs.take k = xs := List.take_of_length_le (by have := hn.out; omega)
      have hov : overS xs = madeS (overF (xs.take k)).1 (overF (xs.take k)).2 := by rw [hxl]; rfl
      have hmade := fun W => made_any (overF (xs.take k)).1 (overF (xs.take k)).2 W
      rw [← hov] at hmade
      clear hov hxl hok hn HX
      unfold RE at hmade
      generalize (overF (xs.take k)).1 = m1 at *
      generalize (overF (xs.take k)).2 = m2 at *
      generalize hrr : overS xs = rr at hmade
      have Hrr := Lib.hid hrr
      clear hrr
      have hq0 : wr.cell? ⟨w.heap.size, 0, none⟩ = some (.int .i64 0) := (hb.out.cell (by have := Hsz.out; show w.heap.size < _; omega)).trans hr0
      have hq1 : wr.cell? ⟨w.heap.size, 1, none⟩ = some (.int .i64 0) := (hb.out.cell (by have := Hsz.out; show w.heap.size < _; omega)).trans hr1
      have hqf : wr.frozen? ⟨w.heap.size, 0, none⟩ = false := (hb.out.frozen (by have := Hsz.out; show w.heap.size < _; omega)).trans hrf
      have hqg : wr.frozen? ⟨w.heap.size, 1, none⟩ = false := (hb.out.frozen (by have := Hsz.out; show w.heap.size < _; omega)).trans hrg
      go_wp2_with fail
      refine (hmade _).mono ?_
      rintro e w2 ⟨rfl, hb2⟩
      have hz : w.heap.size < wr.heap.size := by have := Hsz.out; omega
      obtain ⟨hc2, hf2⟩ := bcell hb2
      go_wp2
      refine bodyPost_ret (v := .tuple #[.agg #[.int .i64 rr.1.lo, .int .i64 rr.1.hi], .int .i64 rr.2]) (by simp [results, Try.results99, go_sem, hc2, hq0, hq1, cell_set, hz]) rfl ⟨by rw [Hrr.out]; rfl, ?_⟩
      exact hB1.trans (by (try show Below _ _ _); repeat (first | (with_reducible refine Below.setCell ?_ (by first | omega | (simp <;> omega)) _) | (with_reducible refine Below.alloc ?_ (by first | omega | (simp <;> omega)) _) | (with_reducible refine Below.drew ?_) | (with_reducible exact Below.refl _ _) | (with_reducible exact hb.out.mono (by have := Hsz.out; omega)) | (with_reducible refine below_call ?_ (by assumption) (by first | omega | (simp <;> omega))) | (with_reducible refine below_call ?_ (Drew.below (by assumption) _) (by first | omega | (simp <;> omega)))))

theorem Elems.q1 {W : World} {b : Nat} {a0 b0 c0 : Int} (h0 : W.cell? ⟨b, 0, none⟩ = some (.int .i64 a0)) (h1 : W.cell? ⟨b, 1, none⟩ = some (.int .i64 b0)) (h2 : W.cell? ⟨b, 2, none⟩ = some (.int .i64 c0)) (hb : b < W.heap.size) : Elems 3 Q3.cell Q3.d W 0 (some ⟨b, 0, none⟩) [⟨a0, b0, c0⟩] := by
  intro _
  refine ⟨_, _, rfl, Nat.zero_le _, hb, fun j i hj hi => ?_⟩
  have hi' : i = 0 ∨ i = 1 ∨ i = 2 := by omega
  have hj' : j = 0 := by simpa using hj
  subst hj'
  rcases hi' with rfl | rfl | rfl
  · simpa [Q3.cell] using h0
  · simpa [Q3.cell] using h1
  · simpa [Q3.cell] using h2

theorem Elems.q2 {W : World} {b : Nat} {a0 b0 c0 a1 b1 c1 : Int} (h0 : W.cell? ⟨b, 0, none⟩ = some (.int .i64 a0)) (h1 : W.cell? ⟨b, 1, none⟩ = some (.int .i64 b0)) (h2 : W.cell? ⟨b, 2, none⟩ = some (.int .i64 c0)) (h3 : W.cell? ⟨b, 3, none⟩ = some (.int .i64 a1)) (h4 : W.cell? ⟨b, 4, none⟩ = some (.int .i64 b1)) (h5 : W.cell? ⟨b, 5, none⟩ = some (.int .i64 c1)) (hb : b < W.heap.size) : Elems 3 Q3.cell Q3.d W 0 (some ⟨b, 0, none⟩) [⟨a0, b0, c0⟩, ⟨a1, b1, c1⟩] := by
  intro _
  refine ⟨_, _, rfl, Nat.zero_le _, hb, fun j i hj hi => ?_⟩
  have hi' : i = 0 ∨ i = 1 ∨ i = 2 := by omega
  have hj' : j = 0 ∨ j = 1 := by simp at hj; omega
  rcases hj' with rfl | rfl <;> rcases hi' with rfl | rfl | rfl
  · simpa [Q3.cell] using h0
  · simpa [Q3.cell] using h1
  · simpa [Q3.cell] using h2
  · simpa [Q3.cell] using h3
  · simpa [Q3.cell] using h4
  · simpa [Q3.cell] using h5

theorem Elems.q4 {W : World} {b : Nat} {a0 b0 c0 a1 b1 c1 a2 b2 c2 a3 b3 c3 : Int} (h0 : W.cell? ⟨b, 0, none⟩ = some (.int .i64 a0)) (h1 : W.cell? ⟨b, 1, none⟩ = some (.int .i64 b0)) (h2 : W.cell? ⟨b, 2, none⟩ = some (.int .i64 c0)) (h3 : W.cell? ⟨b, 3, none⟩ = some (.int .i64 a1)) (h4 : W.cell? ⟨b, 4, none⟩ = some (.int .i64 b1)) (h5 : W.cell? ⟨b, 5, none⟩ = some (.int .i64 c1)) (h6 : W.cell? ⟨b, 6, none⟩ = some (.int .i64 a2)) (h7 : W.cell? ⟨b, 7, none⟩ = some (.int .i64 b2)) (h8 : W.cell? ⟨b, 8, none⟩ = some (.int .i64 c2)) (h9 : W.cell? ⟨b, 9, none⟩ = some (.int .i64 a3)) (h10 : W.cell? ⟨b, 10, none⟩ = some (.int .i64 b3)) (h11 : W.cell? ⟨b, 11, none⟩ = some (.int .i64 c3)) (hb : b < W.heap.size) : Elems 3 Q3.cell Q3.d W 0 (some ⟨b, 0, none⟩) [⟨a0, b0, c0⟩, ⟨a1, b1, c1⟩, ⟨a2, b2, c2⟩, ⟨a3, b3, c3⟩] := by
  intro _
  refine ⟨_, _, rfl, Nat.zero_le _, hb, fun j i hj hi => ?_⟩
  have hi' : i = 0 ∨ i = 1 ∨ i = 2 := by omega
  have hj' : j = 0 ∨ j = 1 ∨ j = 2 ∨ j = 3 := by simp at hj; omega
  rcases hj' with rfl | rfl | rfl | rfl <;> rcases hi' with rfl | rfl | rfl
  · simpa [Q3.cell] using h0
  · simpa [Q3.cell] using h1
  · simpa [Q3.cell] using h2
  · simpa [Q3.cell] using h3
  · simpa [Q3.cell] using h4
  · simpa [Q3.cell] using h5
  · simpa [Q3.cell] using h6
  · simpa [Q3.cell] using h7
  · simpa [Q3.cell] using h8
  · simpa [Q3.cell] using h9
  · simpa [Q3.cell] using h10
  · simpa [Q3.cell] using h11

/-- Scale -/
def scaleS (a : R) (num den : Int) : R × Int :=
  if okR a = false then (⟨0, 0⟩, 2)
  else if btw (-1000000000) 1000000000 [num] = false ∨ btw 1 1000000000 [den] = false then (⟨0, 0⟩, 3)
  else overS [⟨a.lo, num, den⟩, ⟨a.hi, num, den⟩]

theorem btw1 (lo hi x : Int) : btw lo hi [x] = true ↔ lo ≤ x ∧ x ≤ hi := by simp [btw]

end Go.Proofs.Ytlkecgjpmnganaa
