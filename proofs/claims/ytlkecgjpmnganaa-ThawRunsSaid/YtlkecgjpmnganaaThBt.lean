/- Worlds behind one another. No program's text is read here. -/
import Derived.Test.YtlkecgjpmnganaaLib
set_option linter.unusedSimpArgs false
set_option linter.unusedVariables false
namespace Go.Proofs.Ytlkecgjpmnganaa
open Go.RowKit Go.Shelf
theorem btS {B : Nat} {a b c : World} (h : Below B a b) (hB : B ≤ a.heap.size) (k : Below b.heap.size b c) : Below B a c := h.trans (k.mono (Nat.le_trans hB h.size))
theorem drawnS {w w' : World} {n : Nat} (h : w.drewN n = w') : Below w.heap.size w w' := h ▸ Drew.below ⟨n, rfl⟩ _
end Go.Proofs.Ytlkecgjpmnganaa
