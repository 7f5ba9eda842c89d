/- spilelaw01.SpanFractions: the five walks together. -/
import Derived.Test.YtfohdafijfjefaaFrac1
import Derived.Test.YtfohdafijfjefaaFrac2
import Derived.Test.YtfohdafijfjefaaFrac3
import Derived.Test.YtfohdafijfjefaaFrac4
import Derived.Test.YtfohdafijfjefaaFrac5
set_option linter.unusedSimpArgs false
set_option linter.unusedVariables false
namespace Go.Proofs.Ytfohdafijfjefaa
open Go.RowKit Go.Shelf

theorem frac_walk (a0 a1 b0 b1 n : Int) (ha0 : -32768 ≤ a0 ∧ a0 ≤ 32767) (ha1 : -32768 ≤ a1 ∧ a1 ≤ 32767) (hb0 : -32768 ≤ b0 ∧ b0 ≤ 32767) (hb1 : -32768 ≤ b1 ∧ b1 ≤ 32767) (hn : -2147483648 ≤ n ∧ n ≤ 2147483647) (w : World) :
    Calls Try.prog 10 #[.agg #[.int .i16 a0, .int .i16 a1], .agg #[.int .i16 b0, .int .i16 b1], .int .i32 n] w fun e w' => e = .returned (.bool true) ∧ Below w.heap.size w w' := by
  by_cases h0 : a1 = 0
  · exact frac_a1 a0 a1 b0 b1 n ha0 ha1 hb0 hb1 hn h0 w
  · by_cases h3 : b1 = 0
    · exact frac_b1 a0 a1 b0 b1 n ha0 ha1 hb0 hb1 hn h0 h3 w
    · obtain ⟨x0, x1, hx, okx, hxe, hx0, hx1⟩ := makePart_small a0 a1 ha0 ha1 h0
      obtain ⟨y0, y1, hy, oky, hye, hy0, hy1⟩ := makePart_small b0 b1 hb0 hb1 h3
      rcases lowest_err (x0 * y0) (x1 * y1) with hp | hp
      · rcases lowest_err (x0 * y1 + y0 * x1) (x1 * y1) with hq | hq
        · rcases hP : (lowestS (x0 * y0) (x1 * y1)).1 with ⟨p0, p1⟩
          rcases hS : (lowestS (x0 * y1 + y0 * x1) (x1 * y1)).1 with ⟨s0, s1⟩
          exact frac_good a0 a1 b0 b1 n ha0 ha1 hb0 hb1 hn h0 h3 x0 x1 y0 y1 hx okx hxe hx0 hx1 hy oky hy0 hy1 p0 p1 s0 s1 (Prod.ext hP hp) (Prod.ext hS hq) _ rfl w
        · rcases hP : (lowestS (x0 * y0) (x1 * y1)).1 with ⟨p0, p1⟩
          exact frac_addover a0 a1 b0 b1 n ha0 ha1 hb0 hb1 hn h0 h3 x0 x1 y0 y1 hx okx hxe hx0 hx1 hy oky hy0 hy1 p0 p1 (Prod.ext hP hp) hq w
      · exact frac_mulover a0 a1 b0 b1 n ha0 ha1 hb0 hb1 hn h0 h3 x0 x1 y0 y1 hx okx hxe hx0 hx1 hy oky hy0 hy1 hp w

end Go.Proofs.Ytfohdafijfjefaa
