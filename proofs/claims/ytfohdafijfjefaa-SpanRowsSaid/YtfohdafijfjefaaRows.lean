/-
  No cell of these rows narrows 'for every input' (looked for: loops, veiled, ifaces, maps, wideKeys, modest, calm, conditions, laid).
  DERIVED. THE GIVEN ROWS OF THIS SEAT. 13 by the template 'for every input the law returns true; each argument reads behind the call as it read before'; 0 by the template 'total and deterministic' (their statements: YtfohdafijfjefaaTotals.lean).
  GIVEN WITH THE SEED: the statements are not yours to turn. If you find one false, say at which input.
  Laid BY PROGRAM, IN A SANDBOX (cutbox-rows.mjs): the forced cells as the released guide's own fill.sh prints them over the translation 605fc5aaffe8edb6… (all of the seat's roots in one cut). By AI agents, Wed Nov 11 2026. No macro, syntax, notation, axiom, sorry.
-/
import Derived.Test.YtfohdafijfjefaaChecked
import GoSem.Claim
import GoSem.ClaimJoined
import GoSem.ClaimMapViews
import Derived.JoinedTies
import Derived.KernelRfl
namespace Go.Proofs.Ytfohdafijfjefaa
/- THE CELL 'sum', in the pinned program and in every row, IS THE sha256 OF THE DUMP (.gsa) THAT YtfohdafijfjefaaProg.lean LOADS. Nothing in Lean hashes anything: it is a label: what it is worth is what the hold of that sum in a sandbox is worth. -/
noncomputable def Try.pinned : Pinned := { name := "ytfohdafijfjefaa", sum := "605fc5aaffe8edb6f59ea6f1b499d1d0425a649d3d2ca5e5f3fbd4ac531eb413", checked := Try.checked }
namespace Rows
def none {H : Type} : Left H := { results := [], args := [] }

/-- 'spilelaw01.SpanScales': WHATEVER THE INPUT: true; the input reads as it did. -/
def spanScalesSpec : ChangeSpec := { name := "spanScales", fn := fun _ => fun
  | [d1, d2, d3] => { results := [.lit (.bool true)], args := [d1, d2, d3] }
  | _ => none }
def spanScalesRow : OpenClaim := { program := "ytfohdafijfjefaa", sum := "605fc5aaffe8edb6f59ea6f1b499d1d0425a649d3d2ca5e5f3fbd4ac531eb413", func := "spile/spilelaw01.SpanScales", spec := "spanScales", unfollowed := true, recurses := true, named := ["math/bits.divideError", "math/bits.overflowError"], apart := false }
def SpanScalesSaid : Prop := spanScalesRow.holds Try.pinned (OpenSpec.ofChange spanScalesSpec)

/-- ITS FALSE NEIGHBOUR: 'it returns false'. Refute it at one input. -/
def spanScalesWrong : ChangeSpec := { name := "spanScales", fn := fun _ => fun
  | [d1, d2, d3] => { results := [.lit (.bool false)], args := [d1, d2, d3] }
  | _ => none }
def SpanScalesWrongFalsely : Prop := spanScalesRow.holds Try.pinned (OpenSpec.ofChange spanScalesWrong)

/-- 'spilelaw01.SpanBoils': WHATEVER THE INPUT: true; the input reads as it did. -/
def spanBoilsSpec : ChangeSpec := { name := "spanBoils", fn := fun _ => fun
  | [d1, d2] => { results := [.lit (.bool true)], args := [d1, d2] }
  | _ => none }
def spanBoilsRow : OpenClaim := { program := "ytfohdafijfjefaa", sum := "605fc5aaffe8edb6f59ea6f1b499d1d0425a649d3d2ca5e5f3fbd4ac531eb413", func := "spile/spilelaw01.SpanBoils", spec := "spanBoils", unfollowed := true, recurses := true, named := ["math/bits.divideError", "math/bits.overflowError"], apart := false }
def SpanBoilsSaid : Prop := spanBoilsRow.holds Try.pinned (OpenSpec.ofChange spanBoilsSpec)

/-- ITS FALSE NEIGHBOUR: 'it returns false'. Refute it at one input. -/
def spanBoilsWrong : ChangeSpec := { name := "spanBoils", fn := fun _ => fun
  | [d1, d2] => { results := [.lit (.bool false)], args := [d1, d2] }
  | _ => none }
def SpanBoilsWrongFalsely : Prop := spanBoilsRow.holds Try.pinned (OpenSpec.ofChange spanBoilsWrong)

/-- 'spilelaw01.SpanBoiled': WHATEVER THE INPUT: true; the input reads as it did. -/
def spanBoiledSpec : ChangeSpec := { name := "spanBoiled", fn := fun _ => fun
  | [d1, d2, d3] => { results := [.lit (.bool true)], args := [d1, d2, d3] }
  | _ => none }
def spanBoiledRow : OpenClaim := { program := "ytfohdafijfjefaa", sum := "605fc5aaffe8edb6f59ea6f1b499d1d0425a649d3d2ca5e5f3fbd4ac531eb413", func := "spile/spilelaw01.SpanBoiled", spec := "spanBoiled", unfollowed := true, recurses := true, named := ["math/bits.divideError", "math/bits.overflowError"], apart := false }
def SpanBoiledSaid : Prop := spanBoiledRow.holds Try.pinned (OpenSpec.ofChange spanBoiledSpec)

/-- ITS FALSE NEIGHBOUR: 'it returns false'. Refute it at one input. -/
def spanBoiledWrong : ChangeSpec := { name := "spanBoiled", fn := fun _ => fun
  | [d1, d2, d3] => { results := [.lit (.bool false)], args := [d1, d2, d3] }
  | _ => none }
def SpanBoiledWrongFalsely : Prop := spanBoiledRow.holds Try.pinned (OpenSpec.ofChange spanBoiledWrong)

/-- 'spilelaw01.SpanSaps': WHATEVER THE INPUT: true; the input reads as it did. -/
def spanSapsSpec : ChangeSpec := { name := "spanSaps", fn := fun _ => fun
  | [d1, d2, d3] => { results := [.lit (.bool true)], args := [d1, d2, d3] }
  | _ => none }
def spanSapsRow : OpenClaim := { program := "ytfohdafijfjefaa", sum := "605fc5aaffe8edb6f59ea6f1b499d1d0425a649d3d2ca5e5f3fbd4ac531eb413", func := "spile/spilelaw01.SpanSaps", spec := "spanSaps", unfollowed := true, recurses := true, named := ["math/bits.divideError", "math/bits.overflowError"], apart := false }
def SpanSapsSaid : Prop := spanSapsRow.holds Try.pinned (OpenSpec.ofChange spanSapsSpec)

/-- ITS FALSE NEIGHBOUR: 'it returns false'. Refute it at one input. -/
def spanSapsWrong : ChangeSpec := { name := "spanSaps", fn := fun _ => fun
  | [d1, d2, d3] => { results := [.lit (.bool false)], args := [d1, d2, d3] }
  | _ => none }
def SpanSapsWrongFalsely : Prop := spanSapsRow.holds Try.pinned (OpenSpec.ofChange spanSapsWrong)

/-- 'spilelaw01.SpanNears': WHATEVER THE INPUT: true; the input reads as it did. -/
def spanNearsSpec : ChangeSpec := { name := "spanNears", fn := fun _ => fun
  | [d1, d2, d3] => { results := [.lit (.bool true)], args := [d1, d2, d3] }
  | _ => none }
def spanNearsRow : OpenClaim := { program := "ytfohdafijfjefaa", sum := "605fc5aaffe8edb6f59ea6f1b499d1d0425a649d3d2ca5e5f3fbd4ac531eb413", func := "spile/spilelaw01.SpanNears", spec := "spanNears", unfollowed := true, recurses := true, named := ["math/bits.divideError", "math/bits.overflowError"], apart := false }
def SpanNearsSaid : Prop := spanNearsRow.holds Try.pinned (OpenSpec.ofChange spanNearsSpec)

/-- ITS FALSE NEIGHBOUR: 'it returns false'. Refute it at one input. -/
def spanNearsWrong : ChangeSpec := { name := "spanNears", fn := fun _ => fun
  | [d1, d2, d3] => { results := [.lit (.bool false)], args := [d1, d2, d3] }
  | _ => none }
def SpanNearsWrongFalsely : Prop := spanNearsRow.holds Try.pinned (OpenSpec.ofChange spanNearsWrong)

/-- 'spilelaw01.SpanParts': WHATEVER THE INPUT: true; the input reads as it did. -/
def spanPartsSpec : ChangeSpec := { name := "spanParts", fn := fun _ => fun
  | [d1, d2, d3] => { results := [.lit (.bool true)], args := [d1, d2, d3] }
  | _ => none }
def spanPartsRow : OpenClaim := { program := "ytfohdafijfjefaa", sum := "605fc5aaffe8edb6f59ea6f1b499d1d0425a649d3d2ca5e5f3fbd4ac531eb413", func := "spile/spilelaw01.SpanParts", spec := "spanParts", unfollowed := true, recurses := true, named := ["math/bits.divideError", "math/bits.overflowError"], apart := false }
def SpanPartsSaid : Prop := spanPartsRow.holds Try.pinned (OpenSpec.ofChange spanPartsSpec)

/-- ITS FALSE NEIGHBOUR: 'it returns false'. Refute it at one input. -/
def spanPartsWrong : ChangeSpec := { name := "spanParts", fn := fun _ => fun
  | [d1, d2, d3] => { results := [.lit (.bool false)], args := [d1, d2, d3] }
  | _ => none }
def SpanPartsWrongFalsely : Prop := spanPartsRow.holds Try.pinned (OpenSpec.ofChange spanPartsWrong)

/-- 'spilelaw01.SpanRows': WHATEVER THE INPUT: true; the input reads as it did. -/
def spanRowsSpec : ChangeSpec := { name := "spanRows", fn := fun _ => fun
  | [d1, d2, d3] => { results := [.lit (.bool true)], args := [d1, d2, d3] }
  | _ => none }
def spanRowsRow : OpenClaim := { program := "ytfohdafijfjefaa", sum := "605fc5aaffe8edb6f59ea6f1b499d1d0425a649d3d2ca5e5f3fbd4ac531eb413", func := "spile/spilelaw01.SpanRows", spec := "spanRows", unfollowed := true, recurses := true, named := ["math/bits.divideError", "math/bits.overflowError"], apart := false }
def SpanRowsSaid : Prop := spanRowsRow.holds Try.pinned (OpenSpec.ofChange spanRowsSpec)

/-- ITS FALSE NEIGHBOUR: 'it returns false'. Refute it at one input. -/
def spanRowsWrong : ChangeSpec := { name := "spanRows", fn := fun _ => fun
  | [d1, d2, d3] => { results := [.lit (.bool false)], args := [d1, d2, d3] }
  | _ => none }
def SpanRowsWrongFalsely : Prop := spanRowsRow.holds Try.pinned (OpenSpec.ofChange spanRowsWrong)

/-- 'spilelaw01.SpanFractions': WHATEVER THE INPUT: true; the input reads as it did. -/
def spanFractionsSpec : ChangeSpec := { name := "spanFractions", fn := fun _ => fun
  | [d1, d2, d3] => { results := [.lit (.bool true)], args := [d1, d2, d3] }
  | _ => none }
def spanFractionsRow : OpenClaim := { program := "ytfohdafijfjefaa", sum := "605fc5aaffe8edb6f59ea6f1b499d1d0425a649d3d2ca5e5f3fbd4ac531eb413", func := "spile/spilelaw01.SpanFractions", spec := "spanFractions", unfollowed := true, recurses := true, named := ["math/bits.divideError", "math/bits.overflowError"], apart := false }
def SpanFractionsSaid : Prop := spanFractionsRow.holds Try.pinned (OpenSpec.ofChange spanFractionsSpec)

/-- ITS FALSE NEIGHBOUR: 'it returns false'. Refute it at one input. -/
def spanFractionsWrong : ChangeSpec := { name := "spanFractions", fn := fun _ => fun
  | [d1, d2, d3] => { results := [.lit (.bool false)], args := [d1, d2, d3] }
  | _ => none }
def SpanFractionsWrongFalsely : Prop := spanFractionsRow.holds Try.pinned (OpenSpec.ofChange spanFractionsWrong)

/-- 'spilelaw01.SpanTables': WHATEVER THE INPUT: true; the input reads as it did. -/
def spanTablesSpec : ChangeSpec := { name := "spanTables", fn := fun _ => fun
  | [d1, d2, d3] => { results := [.lit (.bool true)], args := [d1, d2, d3] }
  | _ => none }
def spanTablesRow : OpenClaim := { program := "ytfohdafijfjefaa", sum := "605fc5aaffe8edb6f59ea6f1b499d1d0425a649d3d2ca5e5f3fbd4ac531eb413", func := "spile/spilelaw01.SpanTables", spec := "spanTables", unfollowed := true, recurses := true, named := ["math/bits.divideError", "math/bits.overflowError"], apart := false }
def SpanTablesSaid : Prop := spanTablesRow.holds Try.pinned (OpenSpec.ofChange spanTablesSpec)

/-- ITS FALSE NEIGHBOUR: 'it returns false'. Refute it at one input. -/
def spanTablesWrong : ChangeSpec := { name := "spanTables", fn := fun _ => fun
  | [d1, d2, d3] => { results := [.lit (.bool false)], args := [d1, d2, d3] }
  | _ => none }
def SpanTablesWrongFalsely : Prop := spanTablesRow.holds Try.pinned (OpenSpec.ofChange spanTablesWrong)

/-- 'spilelaw01.SpanSums': WHATEVER THE INPUT: true; the input reads as it did. -/
def spanSumsSpec : ChangeSpec := { name := "spanSums", fn := fun _ => fun
  | [d1, d2, d3] => { results := [.lit (.bool true)], args := [d1, d2, d3] }
  | _ => none }
def spanSumsRow : OpenClaim := { program := "ytfohdafijfjefaa", sum := "605fc5aaffe8edb6f59ea6f1b499d1d0425a649d3d2ca5e5f3fbd4ac531eb413", func := "spile/spilelaw01.SpanSums", spec := "spanSums", unfollowed := true, recurses := true, named := ["math/bits.divideError", "math/bits.overflowError"], apart := false }
def SpanSumsSaid : Prop := spanSumsRow.holds Try.pinned (OpenSpec.ofChange spanSumsSpec)

/-- ITS FALSE NEIGHBOUR: 'it returns false'. Refute it at one input. -/
def spanSumsWrong : ChangeSpec := { name := "spanSums", fn := fun _ => fun
  | [d1, d2, d3] => { results := [.lit (.bool false)], args := [d1, d2, d3] }
  | _ => none }
def SpanSumsWrongFalsely : Prop := spanSumsRow.holds Try.pinned (OpenSpec.ofChange spanSumsWrong)

/-- 'spilelaw01.SpanHolds': WHATEVER THE INPUT: true; the input reads as it did. -/
def spanHoldsSpec : ChangeSpec := { name := "spanHolds", fn := fun _ => fun
  | [d1, d2, d3] => { results := [.lit (.bool true)], args := [d1, d2, d3] }
  | _ => none }
def spanHoldsRow : OpenClaim := { program := "ytfohdafijfjefaa", sum := "605fc5aaffe8edb6f59ea6f1b499d1d0425a649d3d2ca5e5f3fbd4ac531eb413", func := "spile/spilelaw01.SpanHolds", spec := "spanHolds", unfollowed := true, recurses := true, named := ["math/bits.divideError", "math/bits.overflowError"], apart := false }
def SpanHoldsSaid : Prop := spanHoldsRow.holds Try.pinned (OpenSpec.ofChange spanHoldsSpec)

/-- ITS FALSE NEIGHBOUR: 'it returns false'. Refute it at one input. -/
def spanHoldsWrong : ChangeSpec := { name := "spanHolds", fn := fun _ => fun
  | [d1, d2, d3] => { results := [.lit (.bool false)], args := [d1, d2, d3] }
  | _ => none }
def SpanHoldsWrongFalsely : Prop := spanHoldsRow.holds Try.pinned (OpenSpec.ofChange spanHoldsWrong)

/-- 'spilelaw01.SpanSets': WHATEVER THE INPUT: true; the input reads as it did. -/
def spanSetsSpec : ChangeSpec := { name := "spanSets", fn := fun _ => fun
  | [d1, d2] => { results := [.lit (.bool true)], args := [d1, d2] }
  | _ => none }
def spanSetsRow : OpenClaim := { program := "ytfohdafijfjefaa", sum := "605fc5aaffe8edb6f59ea6f1b499d1d0425a649d3d2ca5e5f3fbd4ac531eb413", func := "spile/spilelaw01.SpanSets", spec := "spanSets", unfollowed := true, recurses := true, named := ["math/bits.divideError", "math/bits.overflowError"], apart := false }
def SpanSetsSaid : Prop := spanSetsRow.holds Try.pinned (OpenSpec.ofChange spanSetsSpec)

/-- ITS FALSE NEIGHBOUR: 'it returns false'. Refute it at one input. -/
def spanSetsWrong : ChangeSpec := { name := "spanSets", fn := fun _ => fun
  | [d1, d2] => { results := [.lit (.bool false)], args := [d1, d2] }
  | _ => none }
def SpanSetsWrongFalsely : Prop := spanSetsRow.holds Try.pinned (OpenSpec.ofChange spanSetsWrong)

/-- 'spilelaw01.SpanMembers': WHATEVER THE INPUT: true; the input reads as it did. -/
def spanMembersSpec : ChangeSpec := { name := "spanMembers", fn := fun _ => fun
  | [d] => { results := [.lit (.bool true)], args := [d] }
  | _ => none }
def spanMembersRow : OpenClaim := { program := "ytfohdafijfjefaa", sum := "605fc5aaffe8edb6f59ea6f1b499d1d0425a649d3d2ca5e5f3fbd4ac531eb413", func := "spile/spilelaw01.SpanMembers", spec := "spanMembers", unfollowed := true, recurses := true, named := ["math/bits.divideError", "math/bits.overflowError"], apart := false }
def SpanMembersSaid : Prop := spanMembersRow.holds Try.pinned (OpenSpec.ofChange spanMembersSpec)

/-- ITS FALSE NEIGHBOUR: 'it returns false'. Refute it at one input. -/
def spanMembersWrong : ChangeSpec := { name := "spanMembers", fn := fun _ => fun
  | [d] => { results := [.lit (.bool false)], args := [d] }
  | _ => none }
def SpanMembersWrongFalsely : Prop := spanMembersRow.holds Try.pinned (OpenSpec.ofChange spanMembersWrong)

/- THE SECOND FORM. 'bulk': how many values and letters a reading holds, each counted each time it is reached (what is shared counts as often as it is met; a slice's spare places count too). A statement '..UptoSaid' is the law's where the arguments, and the package variables that the reading takes, are together of bulk at most 1048576: NARROWER than '..Said'. Prove '..Said' where nothing that the law and all that it calls make is longer than what came in: it says more and counts as full. Else prove '..UptoSaid'. A law counts once. -/
mutual
def uptoBulk {H : Type} : DataW H → Nat
  | .lit (.string bytes) => bytes.length + 1
  | .lit _ => 1
  | .nil => 1
  | .ptr d => uptoBulk d + 1
  | .slice elems spare => uptoBulkAll elems + uptoBulkAll spare + 1
  | .agg parts => uptoBulkAll parts + 1
  | .iface _ d => uptoBulk d + 1
  | .map entries => uptoBulkEntries entries + 1
  | .held _ => 1
def uptoBulkAll {H : Type} : List (DataW H) → Nat
  | [] => 0
  | d :: r => uptoBulk d + uptoBulkAll r
def uptoBulkEntries {H : Type} : List (Lit × DataW H) → Nat
  | [] => 0
  | x :: r => uptoBulkEntry x + uptoBulkEntries r
def uptoBulkEntry {H : Type} : Lit × DataW H → Nat
  | (.string bytes, d) => bytes.length + uptoBulk d + 1
  | (_, d) => uptoBulk d + 1
 end
def uptoSmall : (H : Type) → List (DataW H) → Bool := fun _ ds => decide (uptoBulkAll ds ≤ 1048576)
def OpenSpec.upto (s : _root_.Go.ChangeSpec) : _root_.Go.OpenSpec := { _root_.Go.OpenSpec.ofChange s with cond := some uptoSmall }

/-- 'spilelaw01.SpanScales', WHERE WHAT IT READS IS OF BULK AT MOST 1048576: true; the input reads as it did. -/
def spanScalesUptoRow : OpenClaim := { program := "ytfohdafijfjefaa", sum := "605fc5aaffe8edb6f59ea6f1b499d1d0425a649d3d2ca5e5f3fbd4ac531eb413", func := "spile/spilelaw01.SpanScales", spec := "spanScales", unfollowed := true, recurses := true, named := ["math/bits.divideError", "math/bits.overflowError"], apart := false, narrowed := true }
def SpanScalesUptoSaid : Prop := spanScalesUptoRow.holds Try.pinned (OpenSpec.upto spanScalesSpec)

/-- 'spilelaw01.SpanBoils', WHERE WHAT IT READS IS OF BULK AT MOST 1048576: true; the input reads as it did. -/
def spanBoilsUptoRow : OpenClaim := { program := "ytfohdafijfjefaa", sum := "605fc5aaffe8edb6f59ea6f1b499d1d0425a649d3d2ca5e5f3fbd4ac531eb413", func := "spile/spilelaw01.SpanBoils", spec := "spanBoils", unfollowed := true, recurses := true, named := ["math/bits.divideError", "math/bits.overflowError"], apart := false, narrowed := true }
def SpanBoilsUptoSaid : Prop := spanBoilsUptoRow.holds Try.pinned (OpenSpec.upto spanBoilsSpec)

/-- 'spilelaw01.SpanBoiled', WHERE WHAT IT READS IS OF BULK AT MOST 1048576: true; the input reads as it did. -/
def spanBoiledUptoRow : OpenClaim := { program := "ytfohdafijfjefaa", sum := "605fc5aaffe8edb6f59ea6f1b499d1d0425a649d3d2ca5e5f3fbd4ac531eb413", func := "spile/spilelaw01.SpanBoiled", spec := "spanBoiled", unfollowed := true, recurses := true, named := ["math/bits.divideError", "math/bits.overflowError"], apart := false, narrowed := true }
def SpanBoiledUptoSaid : Prop := spanBoiledUptoRow.holds Try.pinned (OpenSpec.upto spanBoiledSpec)

/-- 'spilelaw01.SpanSaps', WHERE WHAT IT READS IS OF BULK AT MOST 1048576: true; the input reads as it did. -/
def spanSapsUptoRow : OpenClaim := { program := "ytfohdafijfjefaa", sum := "605fc5aaffe8edb6f59ea6f1b499d1d0425a649d3d2ca5e5f3fbd4ac531eb413", func := "spile/spilelaw01.SpanSaps", spec := "spanSaps", unfollowed := true, recurses := true, named := ["math/bits.divideError", "math/bits.overflowError"], apart := false, narrowed := true }
def SpanSapsUptoSaid : Prop := spanSapsUptoRow.holds Try.pinned (OpenSpec.upto spanSapsSpec)

/-- 'spilelaw01.SpanNears', WHERE WHAT IT READS IS OF BULK AT MOST 1048576: true; the input reads as it did. -/
def spanNearsUptoRow : OpenClaim := { program := "ytfohdafijfjefaa", sum := "605fc5aaffe8edb6f59ea6f1b499d1d0425a649d3d2ca5e5f3fbd4ac531eb413", func := "spile/spilelaw01.SpanNears", spec := "spanNears", unfollowed := true, recurses := true, named := ["math/bits.divideError", "math/bits.overflowError"], apart := false, narrowed := true }
def SpanNearsUptoSaid : Prop := spanNearsUptoRow.holds Try.pinned (OpenSpec.upto spanNearsSpec)

/-- 'spilelaw01.SpanParts', WHERE WHAT IT READS IS OF BULK AT MOST 1048576: true; the input reads as it did. -/
def spanPartsUptoRow : OpenClaim := { program := "ytfohdafijfjefaa", sum := "605fc5aaffe8edb6f59ea6f1b499d1d0425a649d3d2ca5e5f3fbd4ac531eb413", func := "spile/spilelaw01.SpanParts", spec := "spanParts", unfollowed := true, recurses := true, named := ["math/bits.divideError", "math/bits.overflowError"], apart := false, narrowed := true }
def SpanPartsUptoSaid : Prop := spanPartsUptoRow.holds Try.pinned (OpenSpec.upto spanPartsSpec)

/-- 'spilelaw01.SpanRows', WHERE WHAT IT READS IS OF BULK AT MOST 1048576: true; the input reads as it did. -/
def spanRowsUptoRow : OpenClaim := { program := "ytfohdafijfjefaa", sum := "605fc5aaffe8edb6f59ea6f1b499d1d0425a649d3d2ca5e5f3fbd4ac531eb413", func := "spile/spilelaw01.SpanRows", spec := "spanRows", unfollowed := true, recurses := true, named := ["math/bits.divideError", "math/bits.overflowError"], apart := false, narrowed := true }
def SpanRowsUptoSaid : Prop := spanRowsUptoRow.holds Try.pinned (OpenSpec.upto spanRowsSpec)

/-- 'spilelaw01.SpanFractions', WHERE WHAT IT READS IS OF BULK AT MOST 1048576: true; the input reads as it did. -/
def spanFractionsUptoRow : OpenClaim := { program := "ytfohdafijfjefaa", sum := "605fc5aaffe8edb6f59ea6f1b499d1d0425a649d3d2ca5e5f3fbd4ac531eb413", func := "spile/spilelaw01.SpanFractions", spec := "spanFractions", unfollowed := true, recurses := true, named := ["math/bits.divideError", "math/bits.overflowError"], apart := false, narrowed := true }
def SpanFractionsUptoSaid : Prop := spanFractionsUptoRow.holds Try.pinned (OpenSpec.upto spanFractionsSpec)

/-- 'spilelaw01.SpanTables', WHERE WHAT IT READS IS OF BULK AT MOST 1048576: true; the input reads as it did. -/
def spanTablesUptoRow : OpenClaim := { program := "ytfohdafijfjefaa", sum := "605fc5aaffe8edb6f59ea6f1b499d1d0425a649d3d2ca5e5f3fbd4ac531eb413", func := "spile/spilelaw01.SpanTables", spec := "spanTables", unfollowed := true, recurses := true, named := ["math/bits.divideError", "math/bits.overflowError"], apart := false, narrowed := true }
def SpanTablesUptoSaid : Prop := spanTablesUptoRow.holds Try.pinned (OpenSpec.upto spanTablesSpec)

/-- 'spilelaw01.SpanSums', WHERE WHAT IT READS IS OF BULK AT MOST 1048576: true; the input reads as it did. -/
def spanSumsUptoRow : OpenClaim := { program := "ytfohdafijfjefaa", sum := "605fc5aaffe8edb6f59ea6f1b499d1d0425a649d3d2ca5e5f3fbd4ac531eb413", func := "spile/spilelaw01.SpanSums", spec := "spanSums", unfollowed := true, recurses := true, named := ["math/bits.divideError", "math/bits.overflowError"], apart := false, narrowed := true }
def SpanSumsUptoSaid : Prop := spanSumsUptoRow.holds Try.pinned (OpenSpec.upto spanSumsSpec)

/-- 'spilelaw01.SpanHolds', WHERE WHAT IT READS IS OF BULK AT MOST 1048576: true; the input reads as it did. -/
def spanHoldsUptoRow : OpenClaim := { program := "ytfohdafijfjefaa", sum := "605fc5aaffe8edb6f59ea6f1b499d1d0425a649d3d2ca5e5f3fbd4ac531eb413", func := "spile/spilelaw01.SpanHolds", spec := "spanHolds", unfollowed := true, recurses := true, named := ["math/bits.divideError", "math/bits.overflowError"], apart := false, narrowed := true }
def SpanHoldsUptoSaid : Prop := spanHoldsUptoRow.holds Try.pinned (OpenSpec.upto spanHoldsSpec)

/-- 'spilelaw01.SpanSets', WHERE WHAT IT READS IS OF BULK AT MOST 1048576: true; the input reads as it did. -/
def spanSetsUptoRow : OpenClaim := { program := "ytfohdafijfjefaa", sum := "605fc5aaffe8edb6f59ea6f1b499d1d0425a649d3d2ca5e5f3fbd4ac531eb413", func := "spile/spilelaw01.SpanSets", spec := "spanSets", unfollowed := true, recurses := true, named := ["math/bits.divideError", "math/bits.overflowError"], apart := false, narrowed := true }
def SpanSetsUptoSaid : Prop := spanSetsUptoRow.holds Try.pinned (OpenSpec.upto spanSetsSpec)

/-- 'spilelaw01.SpanMembers', WHERE WHAT IT READS IS OF BULK AT MOST 1048576: true; the input reads as it did. -/
def spanMembersUptoRow : OpenClaim := { program := "ytfohdafijfjefaa", sum := "605fc5aaffe8edb6f59ea6f1b499d1d0425a649d3d2ca5e5f3fbd4ac531eb413", func := "spile/spilelaw01.SpanMembers", spec := "spanMembers", unfollowed := true, recurses := true, named := ["math/bits.divideError", "math/bits.overflowError"], apart := false, narrowed := true }
def SpanMembersUptoSaid : Prop := spanMembersUptoRow.holds Try.pinned (OpenSpec.upto spanMembersSpec)

end Rows
end Go.Proofs.Ytfohdafijfjefaa
