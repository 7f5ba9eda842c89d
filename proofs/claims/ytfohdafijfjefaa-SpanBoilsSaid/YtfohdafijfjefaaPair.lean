/- A pair of ints by value, as an argument is read. No program's text is read here. -/
import Derived.Test.YtfohdafijfjefaaOpen
set_option linter.unusedSimpArgs false
set_option linter.unusedVariables false
namespace Go.Proofs.Ytfohdafijfjefaa
open Go.Deep Go.ChangeShapes Go.WideShapes Go.ChangeAt Go.RowKit Go.Shelf

theorem pair_two {ns : List Int} (h : ns.length = 2) : ∃ x y, ns = [x, y] := by
  match ns, h with
  | [x, y], _ => exact ⟨x, y, rfl⟩

/-- a pair of ints by value -/
theorem open_pair2 {H : Type} {enc : TypeId × Value → H} {P : Program} {w : World} {r : Reach} {b0 base : Nat} {spare : Nat → Bool} {held : Bool} {t : TypeId} {v : Value} {d : DataW H} {ps : List MemPlace}
    (ht : (match P.underlying t with | some (.struct _) | some (.array _ _) => true | _ => false) = true) (hc : P.cellsOf t = 2) (hk : (List.range 2).map (kindAt P 4 t) = [some .i64, some .i64])
    (hval : Value.okWide P w r b0 t v) (hd : DataW.Trod enc P w base spare held t v d ps) :
    ∃ x y : Int, v = .agg #[.int .i64 x, .int .i64 y] := by
  obtain ⟨ns, h1, h2, _⟩ := open_flat (F := 4) [.i64, .i64] ht hc hk hval hd
  obtain ⟨x, y, rfl⟩ := pair_two h1
  exact ⟨x, y, h2.trans (by simp)⟩

end Go.Proofs.Ytfohdafijfjefaa
