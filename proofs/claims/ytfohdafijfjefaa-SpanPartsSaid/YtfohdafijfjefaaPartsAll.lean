/- spilelaw01.SpanParts: the three walks together. -/
import Derived.Test.YtfohdafijfjefaaPartsLaw1
import Derived.Test.YtfohdafijfjefaaPartsLaw2
import Derived.Test.YtfohdafijfjefaaPartsLaw3
set_option linter.unusedSimpArgs false
set_option linter.unusedVariables false
namespace Go.Proofs.Ytfohdafijfjefaa
open Go.RowKit Go.Shelf

theorem parts_walk (a0 a1 b0 b1 n0 n1 n2 : Int) (w : World) :
    Calls Try.prog 8 #[.agg #[.int .i64 a0, .int .i64 a1], .agg #[.int .i64 b0, .int .i64 b1], .agg #[.int .i64 n0, .int .i64 n1, .int .i64 n2]] w fun e w' => e = .returned (.bool true) ∧ Below w.heap.size w w' := by
  cases ha : okP ⟨a0, a1⟩ with
  | false => exact parts_bada a0 a1 b0 b1 n0 n1 n2 ha w
  | true =>
    cases hb : okP ⟨b0, b1⟩ with
    | false => exact parts_badb a0 a1 b0 b1 n0 n1 n2 ha hb w
    | true => exact parts_good a0 a1 b0 b1 n0 n1 n2 ha hb w

end Go.Proofs.Ytfohdafijfjefaa
