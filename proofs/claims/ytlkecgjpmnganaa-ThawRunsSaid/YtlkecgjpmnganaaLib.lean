/- Plain words for memory: what a slice reads as; what a predicate that is handed on does. No program's text is read here. -/
import Derived.Test.YtlkecgjpmnganaaRows
import Derived.WalkKit
import Derived.WalkSpells
import Derived.WalkLawsBesides
import Derived.Deep.LoopGhost
import Derived.Shelf.Abstract
import Derived.Lib.Hide
set_option linter.unusedSimpArgs false
set_option linter.unusedVariables false
namespace Go.Proofs.Ytlkecgjpmnganaa
open Go.RowKit Go.Shelf

/-- the slice's address holds these ints -/
def Ints (w : World) (lo : Nat) (A : Option Addr) (xs : List Int) : Prop :=
  0 < xs.length → ∃ b o, A = some ⟨b, o, none⟩ ∧ lo ≤ b ∧ b < w.heap.size ∧ ∀ j, j < xs.length → w.cell? ⟨b, o + j, none⟩ = some (.int .i64 (xs[j]?.getD 0))

theorem Ints.below {w w' : World} {B lo : Nat} {A : Option Addr} {xs : List Int} (h : Ints w lo A xs) (hb : Below B w w') (hB : w.heap.size ≤ B) : Ints w' lo A xs := by
  intro hn
  obtain ⟨b, o, e, h0, hl, hc⟩ := h hn
  exact ⟨b, o, e, h0, Nat.lt_of_lt_of_le hl hb.size, fun j hj => (hb.cell (p := ⟨b, o + j, none⟩) (Nat.lt_of_lt_of_le hl hB)).trans (hc j hj)⟩

theorem Ints.mono {w : World} {lo lo' : Nat} {A : Option Addr} {xs : List Int} (h : Ints w lo A xs) (hB : lo' ≤ lo) : Ints w lo' A xs := by
  intro hn
  obtain ⟨b, o, e, h0, r⟩ := h hn
  exact ⟨b, o, e, Nat.le_trans hB h0, r⟩

/-- the slice's address holds these elements of k cells each -/
def Elems {α : Type} (k : Nat) (enc : α → Nat → Value) (d : α) (w : World) (lo : Nat) (A : Option Addr) (xs : List α) : Prop :=
  0 < xs.length → ∃ b o, A = some ⟨b, o, none⟩ ∧ lo ≤ b ∧ b < w.heap.size ∧ ∀ j i, j < xs.length → i < k → w.cell? ⟨b, o + j * k + i, none⟩ = some (enc (xs[j]?.getD d) i)

theorem Elems.below {α : Type} {k : Nat} {enc : α → Nat → Value} {d : α} {w w' : World} {B lo : Nat} {A : Option Addr} {xs : List α} (h : Elems k enc d w lo A xs) (hb : Below B w w') (hB : w.heap.size ≤ B) : Elems k enc d w' lo A xs := by
  intro hn
  obtain ⟨b, o, e, h0, hl, hc⟩ := h hn
  exact ⟨b, o, e, h0, Nat.lt_of_lt_of_le hl hb.size, fun j i hj hi => (hb.cell (p := ⟨b, o + j * k + i, none⟩) (Nat.lt_of_lt_of_le hl hB)).trans (hc j i hj hi)⟩

theorem Elems.mono {α : Type} {k : Nat} {enc : α → Nat → Value} {d : α} {w : World} {lo lo' : Nat} {A : Option Addr} {xs : List α} (h : Elems k enc d w lo A xs) (hB : lo' ≤ lo) : Elems k enc d w lo' A xs := by
  intro hn
  obtain ⟨b, o, e, h0, r⟩ := h hn
  exact ⟨b, o, e, Nat.le_trans hB h0, r⟩

/-- what a predicate that is handed on does, at every later world -/
def PredB (P : Program) {α : Type} (g : FuncId) (cap : Array Value) (enc : α → Value) (p : α → Bool) (w : World) : Prop :=
  ∀ (x : α) (W : World), Below w.heap.size w W → Calls P g (#[enc x] ++ cap) W fun e W' => e = .returned (.bool (p x)) ∧ Below W.heap.size W W'

theorem PredB.below {P : Program} {α : Type} {g : FuncId} {cap : Array Value} {enc : α → Value} {p : α → Bool} {w w' : World} (h : PredB P g cap enc p w) (hb : Below w.heap.size w w') : PredB P g cap enc p w' :=
  fun x W hW => h x W (hb.trans (hW.mono hb.size))

def firstIdx {α : Type} (p : α → Bool) (xs : List α) : Int := match xs.findIdx? p with | some i => i | none => -1

theorem firstIdx_hit {α : Type} (p : α → Bool) (d : α) (xs : List α) (k : Nat) (hk : k < xs.length) (hp : p (xs[k]?.getD d) = true) (hno : ∀ j, j < k → p (xs[j]?.getD d) = false) : firstIdx p xs = k := by
  have : xs.findIdx? p = some k := by
    rw [List.findIdx?_eq_some_iff_getElem]
    refine ⟨hk, by simpa [List.getElem?_eq_getElem hk] using hp, fun j hj => ?_⟩
    have := hno j hj
    simpa [List.getElem?_eq_getElem (Nat.lt_trans hj hk)] using this
  simp [firstIdx, this]

theorem firstIdx_miss {α : Type} (p : α → Bool) (d : α) (xs : List α) (hno : ∀ j, j < xs.length → p (xs[j]?.getD d) = false) : firstIdx p xs = -1 := by
  have : xs.findIdx? p = none := by
    rw [List.findIdx?_eq_none_iff]
    intro x hx
    obtain ⟨j, hj, rfl⟩ := List.getElem_of_mem hx
    have := hno j hj
    simpa [List.getElem?_eq_getElem hj] using this
  simp [firstIdx, this]

theorem firstIdx_ge {α : Type} (p : α → Bool) (xs : List α) : decide (0 ≤ firstIdx p xs) = xs.any p := by
  unfold firstIdx
  cases h : xs.findIdx? p with
  | none => rw [List.findIdx?_eq_none_iff] at h; simp; exact h
  | some i => rw [List.findIdx?_eq_some_iff_getElem] at h; obtain ⟨h1, h2, _⟩ := h; simp; exact ⟨_, List.getElem_mem h1, h2⟩

/-- all between two numbers -/
def btw (lo hi : Int) (xs : List Int) : Bool := xs.all fun n => decide (lo ≤ n) && decide (n ≤ hi)

theorem btw_any (lo hi : Int) (xs : List Int) : (xs.any fun n => decide (n < lo) || decide (hi < n)) = !btw lo hi xs := by
  induction xs with
  | nil => rfl
  | cons x l ih =>
    simp only [btw, List.any_cons, List.all_cons, Bool.not_and] at ih ⊢
    rw [ih]
    congr 1
    rw [Bool.eq_iff_iff]; simp

/-- only draws -/
def Drew (w w' : World) : Prop := ∃ n, w' = w.drewN n
theorem Drew.refl (w : World) : Drew w w := ⟨0, rfl⟩
theorem Drew.below {w w' : World} (h : Drew w w') (B : Nat) : Below B w w' := by
  obtain ⟨n, rfl⟩ := h
  exact ⟨rfl, rfl, rfl, Nat.le_refl _, fun _ _ => rfl⟩

/-- what all calls leave of older memory: cells and marks -/
theorem bcell {W w1 : World} (hb : Below W.heap.size W w1) : (∀ b o, b < W.heap.size → w1.cell? ⟨b, o, none⟩ = W.cell? ⟨b, o, none⟩) ∧ (∀ b o, b < W.heap.size → w1.frozen? ⟨b, o, none⟩ = W.frozen? ⟨b, o, none⟩) :=
  ⟨fun b o h => hb.cell (p := ⟨b, o, none⟩) h, fun b o h => hb.frozen (p := ⟨b, o, none⟩) h⟩

theorem below_undrew {w w' : World} (h : Below w.drew.heap.size w.drew w') : Below w.heap.size w w' := ⟨h.os, h.tape, h.output, h.size, h.block⟩
theorem drew_all {w w' : World} (h : Drew w w') : Below w.heap.size w w' := h.below _
theorem Drew.size {w w' : World} (h : Drew w w') : w'.heap.size = w.heap.size := by obtain ⟨n, rfl⟩ := h; rfl

/-- a cell behind a store, whatever is known of the world -/
theorem cell_set (w : World) (b o b' o' : Nat) (x : Value) : (w.setCell ⟨b, o, none⟩ x).cell? ⟨b', o', none⟩ = if b = b' ∧ o = o' then (w.cell? ⟨b', o', none⟩).map (fun _ => x) else w.cell? ⟨b', o', none⟩ := by
  unfold World.setCell World.cell?
  simp only [Array.getElem?_modify]
  by_cases hb : b = b'
  · subst hb
    rw [if_pos rfl]
    cases h : w.heap[b]? with
    | none => simp
    | some ob =>
      cases ob <;> simp
      rename_i c t fz
      by_cases ho : o = o'
      · subst ho
        rw [if_pos rfl]
        rw [Array.getElem?_setIfInBounds_self]
        by_cases hlt : o < c.size
        · simp [hlt]
        · simp [hlt]
      · rw [if_neg ho, Array.getElem?_setIfInBounds_ne ho]
  · rw [if_neg hb]
    simp [hb]

theorem below_call {B : Nat} {w W w1 : World} (h : Below B w W) (hb : Below W.heap.size W w1) (hB : B ≤ W.heap.size) : Below B w w1 := h.trans (hb.mono hB)

end Go.Proofs.Ytlkecgjpmnganaa
