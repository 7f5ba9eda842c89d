/- TopMixedKegs returns true at every input, and leaves the input as it was. No condition. -/
import Derived.Test.YtgpojnghdhophaaTMK
import Derived.Test.YtgpojnghdhophaaTMKmath
import Derived.Test.YtgpojnghdhophaaTMKlift
set_option linter.unusedSimpArgs false
set_option linter.unusedVariables false
namespace Go.Proofs.Ytgpojnghdhophaa
open Go.RowKit Go.Shelf

theorem topMixedKegs_proved : Rows.TopMixedKegsSaid :=
  tmk_over fun A n c L part w hx hn hl hok hp =>
    law_walk 0 A n c L part w hx (Lib.hid hn) hl
      (fun j hj => by
        have hj' : j < L.length := by omega
        rw [List.getElem?_eq_getElem hj', Option.getD_some]
        exact hok _ (List.getElem_mem hj'))
      (fun s h0 h1 h2 h3 => brix_ok s h0 h1 h2 h3) hp (fun h1 h12 => tmk_math L part hp hok h1 h12)

#print axioms topMixedKegs_proved
end Go.Proofs.Ytgpojnghdhophaa
