/- spilelaw01.SpanTables: all cases. -/
import Derived.Test.YtfohdafijfjefaaTabs0
import Derived.Test.YtfohdafijfjefaaTabs1
import Derived.Test.YtfohdafijfjefaaTabs2
import Derived.Test.YtfohdafijfjefaaTabs3
set_option linter.unusedSimpArgs false
set_option linter.unusedVariables false
namespace Go.Proofs.Ytfohdafijfjefaa
open Go.RowKit Go.Shelf

theorem tabs_walk (A : Option Addr) (n c : Nat) (xs : List R) (x a0 a1 b0 b1 : Int) (w : World) (hl : PairList w A n c xs) :
    Calls Try.prog 11 #[.slice A n c, .int .i64 x, .agg #[.int .i64 a0, .int .i64 a1, .int .i64 b0, .int .i64 b1]] w fun e w' => e = .returned (.bool true) ∧ Below w.heap.size w w' := by
  by_cases h : 80 < n
  · exact tabs_long A n c xs x a0 a1 b0 b1 w hl h
  cases ht : tableS xs with
  | false => exact tabs_bad A n c xs x a0 a1 b0 b1 w hl h ht
  | true =>
    have hin : ∀ z, inS z (firstX xs) (lastX xs) = btw (firstX xs) (lastX xs) [z] := fun z => by unfold inS btw; simp
    have hb2 : btw (firstX xs) (lastX xs) [a0, a1] = (inS a0 (firstX xs) (lastX xs) && inS a1 (firstX xs) (lastX xs)) := by unfold inS btw; simp
    cases hvx : valueIn xs x <;> cases hob : okR ⟨b0, b1⟩ <;> cases hoa : okR ⟨a0, a1⟩
    · exact tabs_xout_abad_bbad A n c xs x a0 a1 b0 b1 w hl h ht hvx hoa hob
    · cases hla : inS a0 (firstX xs) (lastX xs) with
      | false => exact tabs_xout_alow_bbad A n c xs x a0 a1 b0 b1 w hl h ht hvx hoa (by rw [hb2, hla]; rfl) hla hob
      | true =>
        cases hha : inS a1 (firstX xs) (lastX xs) with
        | false => exact tabs_xout_ahigh_bbad A n c xs x a0 a1 b0 b1 w hl h ht hvx hoa (by rw [hb2, hla, hha]; rfl) hla hha hob
        | true => exact tabs_xout_ain_bbad A n c xs x a0 a1 b0 b1 w hl h ht hvx hoa (by rw [hb2, hla, hha]; rfl) hla hha hob
    · exact tabs_xout_abad_bok A n c xs x a0 a1 b0 b1 w hl h ht hvx hoa hob
    · cases hla : inS a0 (firstX xs) (lastX xs) with
      | false => exact tabs_xout_alow_bok A n c xs x a0 a1 b0 b1 w hl h ht hvx hoa (by rw [hb2, hla]; rfl) hla hob
      | true =>
        cases hha : inS a1 (firstX xs) (lastX xs) with
        | false => exact tabs_xout_ahigh_bok A n c xs x a0 a1 b0 b1 w hl h ht hvx hoa (by rw [hb2, hla, hha]; rfl) hla hha hob
        | true => exact tabs_xout_ain_bok A n c xs x a0 a1 b0 b1 w hl h ht hvx hoa (by rw [hb2, hla, hha]; rfl) hla hha hob
    · exact tabs_xin_abad_bbad A n c xs x a0 a1 b0 b1 w hl h ht hvx hoa hob
    · cases hla : inS a0 (firstX xs) (lastX xs) with
      | false => exact tabs_xin_alow_bbad A n c xs x a0 a1 b0 b1 w hl h ht hvx hoa (by rw [hb2, hla]; rfl) hla hob
      | true =>
        cases hha : inS a1 (firstX xs) (lastX xs) with
        | false => exact tabs_xin_ahigh_bbad A n c xs x a0 a1 b0 b1 w hl h ht hvx hoa (by rw [hb2, hla, hha]; rfl) hla hha hob
        | true => exact tabs_xin_ain_bbad A n c xs x a0 a1 b0 b1 w hl h ht hvx hoa (by rw [hb2, hla, hha]; rfl) hla hha hob
    · exact tabs_xin_abad_bok A n c xs x a0 a1 b0 b1 w hl h ht hvx hoa hob
    · cases hla : inS a0 (firstX xs) (lastX xs) with
      | false => exact tabs_xin_alow_bok A n c xs x a0 a1 b0 b1 w hl h ht hvx hoa (by rw [hb2, hla]; rfl) hla hob
      | true =>
        cases hha : inS a1 (firstX xs) (lastX xs) with
        | false => exact tabs_xin_ahigh_bok A n c xs x a0 a1 b0 b1 w hl h ht hvx hoa (by rw [hb2, hla, hha]; rfl) hla hha hob
        | true => exact tabs_xin_ain_bok A n c xs x a0 a1 b0 b1 w hl h ht hvx hoa (by rw [hb2, hla, hha]; rfl) hla hha hob

end Go.Proofs.Ytfohdafijfjefaa
