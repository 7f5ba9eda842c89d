/- spilelaw01.SpanNears: the walks together. -/
import Derived.Test.YtfohdafijfjefaaNears0
import Derived.Test.YtfohdafijfjefaaNears1
import Derived.Test.YtfohdafijfjefaaNears2
import Derived.Test.YtfohdafijfjefaaNears3
import Derived.Test.YtfohdafijfjefaaNears4
import Derived.Test.YtfohdafijfjefaaNears5
import Derived.Test.YtfohdafijfjefaaNears6
import Derived.Test.YtfohdafijfjefaaNears7
set_option linter.unusedSimpArgs false
set_option linter.unusedVariables false
namespace Go.Proofs.Ytfohdafijfjefaa
open Go.RowKit Go.Shelf

theorem nears_walk (A : Option Addr) (n c : Nat) (xs : List R) (b x : Int) (w : World) (hl : PairList w A n c xs) (hb : -9223372036854775808 ≤ b ∧ b ≤ 9223372036854775807) (hx : -9223372036854775808 ≤ x ∧ x ≤ 9223372036854775807) :
    Calls Try.prog 7 #[.slice A n c, .int .i64 b, .int .i64 x] w fun e w' => e = .returned (.bool true) ∧ Below w.heap.size w w' := by
  by_cases h : 220 < n
  · exact nears_long A n c xs b x w hl hb hx h
  · by_cases hs : setS xs = 0
    · cases hxr : btw (-1000000000000000) 1000000000000000 [x] with
      | false =>
        cases hbr : btw 0 1000000000000000 [b] with
        | false => exact nears_xbad_bbad A n c xs b x w hl hb hx h hs hxr hbr
        | true => exact nears_xbad_bok A n c xs b x w hl hb hx h hs hxr hbr
      | true =>
        cases xs with
        | nil =>
          have h0 : n = 0 := hl.len.symm
          cases hbr : btw 0 1000000000000000 [b] with
          | false => exact nears_xnil_bbad A n c [] b x w hl hb hx h hs hxr h0 hbr
          | true => exact nears_xnil_bok A n c [] b x w hl hb hx h hs hxr h0 hbr
        | cons y l =>
          cases hbr : btw 0 1000000000000000 [b] with
          | false => exact nears_xok_bbad A n c _ b x w hl hb hx h hs hxr y l rfl hbr
          | true => exact nears_xok_bok A n c _ b x w hl hb hx h hs hxr y l rfl hbr
    · exact nears_bad A n c xs b x w hl hb hx h (setS xs) hs rfl

end Go.Proofs.Ytfohdafijfjefaa
