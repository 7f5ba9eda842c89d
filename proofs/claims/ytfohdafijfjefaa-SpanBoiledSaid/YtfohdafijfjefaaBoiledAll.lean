/- spilelaw01.SpanBoiled: the four walks together. -/
import Derived.Test.YtfohdafijfjefaaBoiled2
import Derived.Test.YtfohdafijfjefaaBoiled3
import Derived.Test.YtfohdafijfjefaaBoiled4
set_option linter.unusedSimpArgs false
set_option linter.unusedVariables false
namespace Go.Proofs.Ytfohdafijfjefaa
open Go.RowKit Go.Shelf

theorem boiled_walk (a s bx : Int) (ha : 0 ≤ a ∧ a ≤ 4294967295) (hs : 0 ≤ s ∧ s ≤ 4294967295) (hx : 0 ≤ bx ∧ bx ≤ 65535) (w : World) :
    Calls Try.prog 5 #[.int .u32 a, .int .u32 s, .int .u16 bx] w fun e w' => e = .returned (.bool true) ∧ Below w.heap.size w w' := by
  by_cases h0 : s = 0
  · exact boiled_none a s bx ha hs hx h0 w
  · by_cases hw : s * 10000 / (1 + bx % 10000) - (a + s) < 0
    · exact boiled_off a s bx ha hs hx (by omega) hw w
    · by_cases ho : 1000000000000 < a + (s * 10000 / (1 + bx % 10000) - (a + s))
      · exact boiled_over a s bx ha hs hx (by omega) hw ho w
      · exact boiled_thin a s bx ha hs hx (by omega) hw ho w

end Go.Proofs.Ytfohdafijfjefaa
