/- spilelaw01.SpanSums: the walks together. -/
import Derived.Test.YtfohdafijfjefaaSums0
import Derived.Test.YtfohdafijfjefaaSums1
import Derived.Test.YtfohdafijfjefaaSums2
import Derived.Test.YtfohdafijfjefaaSums3
set_option linter.unusedSimpArgs false
set_option linter.unusedVariables false
namespace Go.Proofs.Ytfohdafijfjefaa
open Go.RowKit Go.Shelf

theorem sums_walk (A : Option Addr) (n c : Nat) (xs : List R) (a0 a1 b0 b1 : Int) (w : World) (hl : PairList w A n c xs) :
    Calls Try.prog 12 #[.slice A n c, .agg #[.int .i64 a0, .int .i64 a1], .agg #[.int .i64 b0, .int .i64 b1]] w fun e w' => e = .returned (.bool true) ∧ Below w.heap.size w w' := by
  by_cases h : 120 < n
  · exact sums_long A n c xs a0 a1 b0 b1 w hl h
  · cases ha : okR ⟨a0, a1⟩ with
    | false => exact sums_bada A n c xs a0 a1 b0 b1 w hl h ha
    | true =>
      cases hb : okR ⟨b0, b1⟩ with
      | false => exact sums_badb A n c xs a0 a1 b0 b1 w hl h ha hb
      | true => exact sums_good A n c xs a0 a1 b0 b1 w hl h ha hb _ _ rfl rfl

end Go.Proofs.Ytfohdafijfjefaa
