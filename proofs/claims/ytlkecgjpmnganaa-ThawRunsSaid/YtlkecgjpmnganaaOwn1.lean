/- Slices of one's own whose elements are one cell each. No program's text is read here. -/
import Derived.Test.YtlkecgjpmnganaaLib
import Derived.Test.YtlkecgjpmnganaaMM
import Derived.Deep.AppendLies
import Derived.Laws.OwnMore
import Derived.OwnWalk
import Derived.Laws.AppendOwnNone
set_option linter.unusedSimpArgs false
set_option linter.unusedVariables false
namespace Go.Proofs.Ytlkecgjpmnganaa
open Go.RowKit Go.Shelf

/-- the slice's address holds these elements of one cell each -/
def Els {α : Type} (enc : α → Value) (d : α) (w : World) (lo : Nat) (A : Option Addr) (xs : List α) : Prop :=
  0 < xs.length → ∃ b o, A = some ⟨b, o, none⟩ ∧ lo ≤ b ∧ b < w.heap.size ∧ ∀ j, j < xs.length → w.cell? ⟨b, o + j, none⟩ = some (enc (xs[j]?.getD d))

theorem Els.below {α : Type} {enc : α → Value} {d : α} {w w' : World} {B lo : Nat} {A : Option Addr} {xs : List α} (h : Els enc d w lo A xs) (hb : Below B w w') (hB : w.heap.size ≤ B) : Els enc d w' lo A xs := by
  intro hn
  obtain ⟨b, o, e, h0, hl, hc⟩ := h hn
  exact ⟨b, o, e, h0, Nat.lt_of_lt_of_le hl hb.size, fun j hj => (hb.cell (p := ⟨b, o + j, none⟩) (Nat.lt_of_lt_of_le hl hB)).trans (hc j hj)⟩
theorem Els.mono {α : Type} {enc : α → Value} {d : α} {w : World} {lo lo' : Nat} {A : Option Addr} {xs : List α} (h : Els enc d w lo A xs) (hB : lo' ≤ lo) : Els enc d w lo' A xs := by
  intro hn
  obtain ⟨b, o, e, h0, r⟩ := h hn
  exact ⟨b, o, e, Nat.le_trans hB h0, r⟩
theorem Els.ints {w : World} {lo : Nat} {A : Option Addr} {xs : List Int} (h : Els (Value.int .i64) 0 w lo A xs) : Ints w lo A xs := h

/-- a slice value of one's own that reads as these elements -/
def Own1 {α : Type} (enc : α → Value) (t : TypeId) (W : World) (base : Nat) (v : Value) (xs : List α) : Prop := W.ownsRow base t 1 v xs.length (xs.map enc)

theorem Own1.nil {α : Type} (enc : α → Value) (t : TypeId) (W : World) (base : Nat) : Own1 enc t W base (.slice none 0 0) [] := World.ownsRow_nil W base _ _
theorem Own1.below {α : Type} {enc : α → Value} {t : TypeId} {W W' : World} {base B : Nat} {v : Value} {xs : List α} (h : Own1 enc t W base v xs) (hb : Below B W W') (hB : W.heap.size ≤ B) : Own1 enc t W' base v xs :=
  World.ownsRow.kept (row := none) h ⟨hb.os, hb.tape, hb.output, hb.size, fun k hk _ => hb.block k (Nat.lt_of_lt_of_le hk hB)⟩ (by cases v.ownBlock <;> simp)
theorem Own1.alloc {α : Type} {enc : α → Value} {t : TypeId} {W : World} {base : Nat} {v : Value} {xs : List α} (h : Own1 enc t W base v xs) (o : Obj) : Own1 enc t (W.alloc o) base v xs :=
  h.below ((Below.refl W.heap.size W).alloc (Nat.le_refl _) o) (Nat.le_refl _)
theorem Own1.reads {α : Type} {enc : α → Value} {t : TypeId} {W : World} {base : Nat} {v : Value} {xs : List α} (d : α) (h : Own1 enc t W base v xs) : ∃ A c, v = .slice A xs.length c ∧ xs.length ≤ c ∧ c ≤ maxLen ∧ (A = none → xs.length = 0 ∧ c = 0) ∧ Els enc d W base A xs := by
  rcases h.2 with ⟨h0, hn⟩ | ⟨g, cap, cur, hv, hb, hh, h1, h2, h3, h4⟩
  · exact ⟨none, 0, by rw [hn]; exact h0, by omega, Nat.zero_le _, fun _ => ⟨hn, rfl⟩, fun hp => absurd hp (by omega)⟩
  · refine ⟨_, cap, hv, h1, h2, (fun e => by cases e), fun hp => ⟨g, 0, rfl, hb, ?_, fun j hj => ?_⟩⟩
    · rcases Nat.lt_or_ge g W.heap.size with hlt | hge
      · exact hlt
      · rw [Array.getElem?_eq_none hge] at hh; cases hh
    · have h' := h
      unfold Own1 at h'
      rw [hv] at h'
      have := h'.cellAt j (by omega)
      rw [List.getElem?_map, List.getElem?_eq_getElem hj] at this
      rw [List.getElem?_eq_getElem hj]
      simpa using this
/-- what an append leaves -/
theorem Own1.snoc {α : Type} {enc : α → Value} {t : TypeId} {W : World} {base : Nat} {v : Value} {xs : List α} {x : α} {n : Nat} (h : W.ownsRow base t 1 v (n + 1) (xs.map enc ++ [enc x])) (hn : xs.length = n) : Own1 enc t W base v (xs ++ [x]) := by
  unfold Own1
  rw [List.length_append, hn, List.map_append]
  exact h
/-- one new element as an append reads it -/
theorem news_one {W : World} {b : Nat} {v : Value} (h : W.cell? ⟨b, 0, none⟩ = some v) : ∀ j u, [v][j]? = some u → W.cell? ((⟨b, 0, none⟩ : Addr).add j) = some u := by
  intro j u hu
  cases j with
  | zero =>
    obtain rfl : v = u := by simpa using hu
    rw [Addr.add_zero']
    exact h
  | succ j => simp at hu


end Go.Proofs.Ytlkecgjpmnganaa
