/- spilelaw01.SpanHolds: the walks together. -/
import Derived.Test.YtfohdafijfjefaaHolds1
import Derived.Test.YtfohdafijfjefaaHolds2
import Derived.Test.YtfohdafijfjefaaHolds3
set_option linter.unusedSimpArgs false
set_option linter.unusedVariables false
namespace Go.Proofs.Ytfohdafijfjefaa
open Go.RowKit Go.Shelf

theorem holds_walk (a0 a1 b0 b1 p0 p1 p2 : Int) (ha0 : -2147483648 ≤ a0 ∧ a0 ≤ 2147483647) (ha1 : -2147483648 ≤ a1 ∧ a1 ≤ 2147483647) (hb0 : -2147483648 ≤ b0 ∧ b0 ≤ 2147483647) (hb1 : -2147483648 ≤ b1 ∧ b1 ≤ 2147483647)
    (hp0 : 0 ≤ p0 ∧ p0 ≤ 4294967295) (hp1 : 0 ≤ p1 ∧ p1 ≤ 4294967295) (hp2 : 0 ≤ p2 ∧ p2 ≤ 4294967295) (w : World) :
    Calls Try.prog 13 #[.agg #[.int .i32 a0, .int .i32 a1], .agg #[.int .i32 b0, .int .i32 b1], .agg #[.int .u32 p0, .int .u32 p1, .int .u32 p2]] w fun e w' => e = .returned (.bool true) ∧ Below w.heap.size w w' := by
  by_cases h1 : 0 < (min b0 b1).tdiv 200
  · exact holds_pos a0 a1 b0 b1 p0 p1 p2 ha0 ha1 hb0 hb1 hp0 hp1 hp2 h1 w
  · by_cases h2 : (max b0 b1).tdiv 200 < 0
    · exact holds_neg a0 a1 b0 b1 p0 p1 p2 ha0 ha1 hb0 hb1 hp0 hp1 hp2 h2 w
    · exact holds_zero a0 a1 b0 b1 p0 p1 p2 ha0 ha1 hb0 hb1 hp0 hp1 hp2 ⟨by omega, by omega⟩ w

end Go.Proofs.Ytfohdafijfjefaa
