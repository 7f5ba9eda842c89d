/- The laws' arguments: a list of groups of taps. -/
import Derived.Test.YtlkecgjpmnganaaFlat
import Derived.Test.YtlkecgjpmnganaaThOwn
set_option linter.unusedSimpArgs false
set_option linter.unusedVariables false
namespace Go.Proofs.Ytlkecgjpmnganaa
open Go.Deep Go.ChangeShapes Go.WideShapes Go.ChangeAt Go.RowKit Go.Shelf

/-- a list of groups as it is handed on -/
structure GpList (w : World) (A : Option Addr) (n c : Nat) (xs : List Gp) : Prop where
  len : xs.length = n
  le : n ≤ c
  max : c ≤ maxLen
  none : A = .none → n = 0 ∧ c = 0
  at_ : gpL.at w 0 A xs

theorem open_groups {H : Type} {enc : TypeId × Value → H} {P : Program} {w : World} {r : Reach} {b0 : Nat} {t e : TypeId} {v : Value} {d : DataW H} {ps : List MemPlace} (ht : P.underlying t = some (.slice e)) (hc : P.cellsOf e = 3) (hk : (List.range 3).map (kindAt P 4 e) = [some .i64, some .i64, some .i64])
    (hval : Value.okWide P w r b0 t v) (hd : DataW.Trod enc P w 0 (fun _ => true) true t v d ps) : ∃ A n c xs, v = .slice A n c ∧ GpList w A n c xs := by
  obtain ⟨A, n, c, L, rfl, hl, h1, h2, h3, h4, h5⟩ := open_list (F := 4) [.i64, .i64, .i64] ht hc hk (by simp) hval hd
  refine ⟨A, n, c, L.map fun l => ⟨l[0]?.getD 0, l[1]?.getD 0, l[2]?.getD 0⟩, rfl, by simpa using hl, h1, h2, h3, ?_⟩
  intro hp
  obtain ⟨b, o, e1, e2, e3, hcs⟩ := h5 (by simpa using hp)
  refine ⟨b, o, e1, e2, e3, fun j i hj hi => ?_⟩
  have hj' : j < L.length := by simpa using hj
  have := hcs j i hj' hi
  rw [show o + j * gpL.k + i = o + j * [IntKind.i64, IntKind.i64, IntKind.i64].length + i from rfl, this, List.getElem?_map, List.getElem?_eq_getElem hj']
  have hi3 : i < 3 := hi
  have : i = 0 ∨ i = 1 ∨ i = 2 := by omega
  rcases this with rfl | rfl | rfl <;> rfl

end Go.Proofs.Ytlkecgjpmnganaa
