/- spilelaw01.SpanNears: the walk (a long list). -/
import Derived.Test.YtfohdafijfjefaaKnown1
import Derived.Test.YtfohdafijfjefaaRefNear
import Derived.Test.YtfohdafijfjefaaRefWide
import Derived.Test.YtfohdafijfjefaaFlat
set_option linter.unusedSimpArgs false
set_option linter.unusedVariables false
namespace Go.Proofs.Ytfohdafijfjefaa
open Go.RowKit Go.Shelf

set_option maxRecDepth 100000 in
set_option maxHeartbeats 4000000 in
theorem nears_long (A : Option Addr) (n c : Nat) (xs : List R) (b x : Int) (w : World) (hl : PairList w A n c xs) (hb : -9223372036854775808 ≤ b ∧ b ≤ 9223372036854775807) (hxx : -9223372036854775808 ≤ x ∧ x ≤ 9223372036854775807) (h : 220 < n) :
    Calls Try.prog 7 #[.slice A n c, .int .i64 b, .int .i64 x] w fun e w' => e = .returned (.bool true) ∧ Below w.heap.size w w' := by
  obtain ⟨hlen, hle, hmax, hnone, hx, -⟩ := hl
  have hk := fun W => known1_any W
  have hz : (220 : Int) < (n : Int) := by omega
  unfold maxLen at hmax
  clear hlen hx
  go_enter Try.func7, Try.ntmps7
  go_wp2_with fail
  refine (hk _).mono ?_
  rintro e w1 ⟨rfl, hb1⟩
  have hz1 := hb1.size
  (try simp only [World.size_alloc, World.size_setCell, World.size_drew] at hz1)
  have hB1 : Below w.heap.size w w1 := (by (try show Below _ _ _); repeat (first | (with_reducible refine Below.setCell ?_ (by first | omega | (simp <;> omega)) _) | (with_reducible refine Below.alloc ?_ (by first | omega | (simp <;> omega)) _) | (with_reducible refine Below.drew ?_) | (with_reducible exact Below.refl _ _) | (with_reducible exact Below.refl _ _) | (with_reducible refine below_call ?_ hb1 (by first | omega | (simp <;> omega))) | (with_reducible refine below_call ?_ (Drew.below hb1 _) (by first | omega | (simp <;> omega)))))
  clear hb1 
  go_wp2
  go_ret
  exact ⟨rfl, (by (try show Below _ _ _); repeat (first | (with_reducible refine Below.setCell ?_ (by first | omega | (simp <;> omega)) _) | (with_reducible refine Below.alloc ?_ (by first | omega | (simp <;> omega)) _) | (with_reducible refine Below.drew ?_) | (with_reducible exact Below.refl _ _) | (with_reducible exact hB1) | (with_reducible refine below_call ?_ (by assumption) (by first | omega | (simp <;> omega))) | (with_reducible refine below_call ?_ (Drew.below (by assumption) _) (by first | omega | (simp <;> omega)))))⟩

end Go.Proofs.Ytfohdafijfjefaa
