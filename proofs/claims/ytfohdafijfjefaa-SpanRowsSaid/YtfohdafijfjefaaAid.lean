/- Small words for walks. -/
import Derived.Test.YtfohdafijfjefaaLib
set_option linter.unusedSimpArgs false
set_option linter.unusedVariables false
namespace Go.Proofs.Ytfohdafijfjefaa
open Go.RowKit Go.Shelf

/-- a world under a new name -/
theorem froze {w w' : World} {o : Obj} (h : w.alloc o = w') : Below (w.alloc o).heap.size (w.alloc o) w' := h ▸ Below.refl _ _

end Go.Proofs.Ytfohdafijfjefaa
