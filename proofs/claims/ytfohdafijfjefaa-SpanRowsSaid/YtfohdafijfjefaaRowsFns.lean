/- Small contracts for SpanRows: has, inside; the steps' list; the list that the law makes. -/
import Derived.Test.YtfohdafijfjefaaLib
import Derived.Test.YtfohdafijfjefaaHoldsFn
import Derived.Test.YtfohdafijfjefaaCopy
import Derived.Test.YtfohdafijfjefaaFlat
import Derived.Test.YtfohdafijfjefaaRowsMaths

section
set_option linter.unusedSimpArgs false
set_option linter.unusedVariables false
namespace Go.Proofs.Ytfohdafijfjefaa
open Go.RowKit Go.Shelf

/-- what follows the first n statements -/
def dropC : Nat → Code → Code
  | n + 1, .seq _ y => dropC n y
  | _, c => c
/-- the first n statements, then R -/
def mkC : Nat → Code → Code → Code
  | 0, _, R => R
  | n + 1, .seq x y, R => .seq x (mkC n y R)
  | _ + 1, c, _ => c
def bodyC (f : Func) : Code := f.body.getD .skip

theorem mkC_drop : ∀ (n : Nat) (c : Code), mkC n c (dropC n c) = c
  | 0, c => by cases c <;> rfl
  | n + 1, c => by
    cases c
    case seq x y => show Code.seq x (mkC n y (dropC n y)) = _; rw [mkC_drop n y]
    all_goals rfl

theorem dropC_add (m : Nat) : ∀ (n : Nat) (c : Code), dropC m (dropC n c) = dropC (n + m) c
  | 0, c => by
    rw [Nat.zero_add]
    show dropC m (dropC 0 c) = _
    cases c <;> rfl
  | n + 1, c => by
    rw [show n + 1 + m = (n + m) + 1 by omega]
    cases c
    case seq x y => exact dropC_add m n y
    all_goals
      show dropC m _ = _
      cases m <;> rfl

theorem wp_tail {P : Program} {Q : Exit → Act → World → Prop} {a : Act} {w : World} (n : Nat) {c R : Code} (hR : R = dropC n c) (h : (mkC n c R).wp P Q a w) : c.wp P Q a w := by
  rw [hR, mkC_drop] at h
  exact h
theorem drop_tail {f : Func} {n m : Nat} : dropC (n + m) (bodyC f) = dropC m (dropC n (bodyC f)) := (dropC_add m n _).symm

end Go.Proofs.Ytfohdafijfjefaa

end

section
set_option linter.unusedSimpArgs false
set_option linter.unusedVariables false
namespace Go.Proofs.Ytfohdafijfjefaa
open Go.Deep Go.ChangeShapes Go.WideShapes Go.ChangeAt Go.RowKit Go.Shelf

theorem has_any (lo hi n : Int) (w : World) :
    Calls Try.prog 65 #[.agg #[.int .i64 lo, .int .i64 hi], .int .i64 n] w fun e w' => e = .returned (.bool (decide (lo ≤ n) && decide (n ≤ hi))) ∧ Below w.heap.size w w' := by
  by_cases h : lo ≤ n ∧ n ≤ hi
  · refine (has_yes lo hi n h w).mono ?_
    rintro e w' ⟨rfl, hb⟩
    exact ⟨by simp [h.1, h.2], hb⟩
  · refine (has_no lo hi n (by omega) w).mono ?_
    rintro e w' ⟨rfl, hb⟩
    refine ⟨?_, hb⟩
    congr 2
    rw [eq_comm, Bool.and_eq_false_iff, decide_eq_false_iff_not, decide_eq_false_iff_not]
    omega

set_option maxHeartbeats 400000 in
theorem inside_any (a0 a1 b0 b1 : Int) (w : World) :
    Calls Try.prog 64 #[.agg #[.int .i64 a0, .int .i64 a1], .agg #[.int .i64 b0, .int .i64 b1]] w fun e w' => e = .returned (.bool (decide (b0 ≤ a0) && decide (a1 ≤ b1))) ∧ Below w.heap.size w w' := by
  by_cases h : b0 ≤ a0
  · by_cases h2 : a1 ≤ b1
    · refine (inside_yes a0 a1 b0 b1 ⟨h, h2⟩ w).mono ?_
      rintro e w' ⟨rfl, hb⟩
      exact ⟨by simp [h, h2], hb⟩
    · have h3 : decide (a1 ≤ b1) = false := decide_eq_false_iff_not.2 h2
      rw [h3, Bool.and_false]
      go_enter Try.func64, Try.ntmps64
      go_wp2
      go_ret
      exact ⟨rfl, (by (try show Below _ _ _); repeat (first | (with_reducible refine Below.setCell ?_ (by first | omega | (simp <;> omega)) _) | (with_reducible refine Below.alloc ?_ (by first | omega | (simp <;> omega)) _) | (with_reducible refine Below.drew ?_) | (with_reducible exact Below.refl _ _) | (with_reducible refine below_call ?_ (by assumption) (by first | omega | (simp <;> omega))) | (with_reducible refine below_call ?_ (Drew.below (by assumption) _) (by first | omega | (simp <;> omega)))))⟩
  · have h3 : decide (b0 ≤ a0) = false := decide_eq_false_iff_not.2 h
    rw [h3, Bool.false_and]
    have h4 : a0 < b0 := by omega
    go_enter Try.func64, Try.ntmps64
    go_wp2
    go_ret
    exact ⟨rfl, (by (try show Below _ _ _); repeat (first | (with_reducible refine Below.setCell ?_ (by first | omega | (simp <;> omega)) _) | (with_reducible refine Below.alloc ?_ (by first | omega | (simp <;> omega)) _) | (with_reducible refine Below.drew ?_) | (with_reducible exact Below.refl _ _) | (with_reducible refine below_call ?_ (by assumption) (by first | omega | (simp <;> omega))) | (with_reducible refine below_call ?_ (Drew.below (by assumption) _) (by first | omega | (simp <;> omega)))))⟩

abbrev rowV (g n c : Nat) : Value := .slice (some ⟨g, 0, none⟩) n c
/-- a list of one's own, as it is read -/
theorem rowT_reads {t : TypeId} {W : World} {base g c n : Nat} {xs : List R} (h : W.ownsRow base t 2 (rowV g n c) n (xs.flatMap rCs)) (hn : xs.length = n) : n ≤ c ∧ c ≤ maxLen ∧ Ranges W base (some ⟨g, 0, none⟩) xs := by
  subst hn
  obtain ⟨A, c', e, h1, h2, h3⟩ := OwnT.reads (t := t) (xs := xs) h
  injection e with e1 e2 e3
  subst e1 e3
  exact ⟨h1, h2, h3⟩
theorem rng_at {W : World} {lo g o : Nat} {xs : List R} (h : Ranges W lo (some ⟨g, o, none⟩) xs) (j : Nat) (hj : j < xs.length) :
    W.cell? ⟨g, o + j * 2, none⟩ = some (.int .i64 (xs[j]?.getD R.d).lo) ∧ W.cell? ⟨g, o + j * 2 + 1, none⟩ = some (.int .i64 (xs[j]?.getD R.d).hi) ∧ g < W.heap.size := by
  obtain ⟨b, o', e, _, h2, h3⟩ := h (by omega)
  injection e with e
  injection e with e1 e2
  subst e1 e2
  refine ⟨?_, ?_, h2⟩
  · have := h3 j 0 hj (by omega)
    simpa [R.cell] using this
  · have := h3 j 1 hj (by omega)
    simpa [R.cell] using this

theorem OwnR.none {W : World} {base n c : Nat} {A : Option Addr} {xs : List R} (h : OwnR W base (.slice A n c) xs) : A = .none → n = 0 ∧ c = 0 := by
  rcases h.2 with ⟨h0, hn⟩ | ⟨g, cap, cur, hv, hb, hh, h1, h2, h3, h4⟩
  · intro _
    injection h0 with e1 e2 e3
    exact ⟨e2, e3⟩
  · intro h
    subst h
    cases hv

def hasF (xs : List R) (z : Int) : Bool := xs.any fun r => decide (r.lo ≤ z) && decide (z ≤ r.hi)
open Classical in
theorem hasF_mem (xs : List R) (z : Int) : hasF xs z = decide (mem xs z) := by
  rw [Bool.eq_iff_iff]
  unfold hasF mem
  simp
theorem hasF_snoc (xs : List R) (z : Int) (k : Nat) (hk : k < xs.length) : hasF (xs.take (k + 1)) z = (hasF (xs.take k) z || (decide ((xs[k]?.getD R.d).lo ≤ z) && decide (z ≤ (xs[k]?.getD R.d).hi))) := by
  unfold hasF
  rw [List.take_succ_eq_append_getElem hk, List.any_append, List.getElem?_eq_getElem hk]
  simp only [List.any_cons, List.any_nil, Bool.or_false, Option.getD_some]

/-- pairs of i16 -/
def S16 (r : R) (i : Nat) : Value := if i = 0 then .int .i16 r.lo else .int .i16 r.hi
structure StepList (w : World) (A : Option Addr) (n c : Nat) (xs : List R) : Prop where
  len : xs.length = n
  le : n ≤ c
  max : c ≤ maxLen
  none : A = .none → n = 0 ∧ c = 0
  at_ : Elems 2 S16 R.d w 0 A xs
  bd : ∀ x ∈ xs, (-32768 ≤ x.lo ∧ x.lo ≤ 32767) ∧ (-32768 ≤ x.hi ∧ x.hi ≤ 32767)
theorem open_steps {H : Type} {enc : TypeId × Value → H} {P : Program} {w : World} {r : Reach} {b0 : Nat} {t e : TypeId} {v : Value} {d : DataW H} {ps : List MemPlace} (ht : P.underlying t = some (.slice e)) (hc : P.cellsOf e = 2) (hk : (List.range 2).map (kindAt P 4 e) = [some .i16, some .i16])
    (hval : Value.okWide P w r b0 t v) (hd : DataW.Trod enc P w 0 (fun _ => true) true t v d ps) : ∃ A n c xs, v = .slice A n c ∧ StepList w A n c xs := by
  obtain ⟨A, n, c, L, rfl, hl, h1, h2, h3, h4, h5⟩ := open_list (F := 4) [.i16, .i16] ht hc hk (by simp) hval hd
  refine ⟨A, n, c, L.map fun l => ⟨l[0]?.getD 0, l[1]?.getD 0⟩, rfl, by simpa using hl, h1, h2, h3, ?_, ?_⟩
  · refine Elems.map (d := []) (fun l : List Int => (⟨l[0]?.getD 0, l[1]?.getD 0⟩ : R)) h5 ?_
    intro x _ i hi
    have : i = 0 ∨ i = 1 := by omega
    rcases this with rfl | rfl <;> simp [S16]
  · intro x hx
    obtain ⟨l, hl', rfl⟩ := List.mem_map.1 hx
    obtain ⟨_, hw⟩ := h4 l hl'
    exact ⟨wf_i16 (by simpa using hw 0 (by simp)), wf_i16 (by simpa using hw 1 (by simp))⟩

theorem rowsF_len (ss : List R) (k : Nat) (hk : k ≤ ss.length) : (rowsF (ss.take k)).2.length = k := by
  induction k with
  | zero => simp [rowsF]
  | succ k ih =>
    rw [rowsF_snoc ss k (by omega)]
    unfold rowsStep
    simp [ih (by omega)]

theorem infoRow : (Try.prog.info? 81).map (fun i => (i.zero, i.size, i.bytes)) = some (some (.agg #[.int .i64 0, .int .i64 0]), 2, 16) := by kernel_rfl

/-- what stands in memory while the table is made -/
structure RowI (w : World) (l : List R) (k g c : Nat) (p0 p1 y0 y1 : Int) (wr : World) : Prop where
  below : Below w.heap.size w wr
  own : wr.ownsRow (w.heap.size + 2) 81 2 (rowV g k c) k (l.flatMap rCs)
  a0 : wr.cell? ⟨w.heap.size, 0, none⟩ = some (.int .u16 p0)
  a1 : wr.cell? ⟨w.heap.size, 1, none⟩ = some (.int .u16 p1)
  b0 : wr.cell? ⟨w.heap.size + 1, 0, none⟩ = some (.int .i16 y0)
  b1 : wr.cell? ⟨w.heap.size + 1, 1, none⟩ = some (.int .i16 y1)
  sz : w.heap.size + 1 < wr.heap.size

end Go.Proofs.Ytfohdafijfjefaa

end
