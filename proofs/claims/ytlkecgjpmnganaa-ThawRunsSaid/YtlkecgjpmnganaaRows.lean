/-
  No cell of these rows narrows 'for every input' (looked for: loops, veiled, ifaces, maps, wideKeys, modest, calm, conditions, laid).
  DERIVED. THE GIVEN ROWS OF THIS SEAT. 11 by the template 'for every input the law returns true; each argument reads behind the call as it read before'; 0 by the template 'total and deterministic' (their statements: YtlkecgjpmnganaaTotals.lean).
  GIVEN WITH THE SEED: the statements are not yours to turn. If you find one false, say at which input.
  Laid BY PROGRAM, IN A SANDBOX (cutbox-rows.mjs): the forced cells as the released guide's own fill.sh prints them over the translation 0a68af74e200cf23… (all of the seat's roots in one cut). By AI agents, Wed Nov 11 2026. No macro, syntax, notation, axiom, sorry.
-/
import Derived.Test.YtlkecgjpmnganaaChecked
import GoSem.Claim
import GoSem.ClaimJoined
import GoSem.ClaimMapViews
import Derived.JoinedTies
import Derived.KernelRfl
namespace Go.Proofs.Ytlkecgjpmnganaa
/- THE CELL 'sum', in the pinned program and in every row, IS THE sha256 OF THE DUMP (.gsa) THAT YtlkecgjpmnganaaProg.lean LOADS. Nothing in Lean hashes anything: it is a label: what it is worth is what the hold of that sum in a sandbox is worth. -/
noncomputable def Try.pinned : Pinned := { name := "ytlkecgjpmnganaa", sum := "0a68af74e200cf231d004c1f69868b7c4de83ffc663eade76f21a5a0016b2198", checked := Try.checked }
namespace Rows
def none {H : Type} : Left H := { results := [], args := [] }

/-- 'spilelaw04.ThawTells': WHATEVER THE INPUT: true; the input reads as it did. -/
def thawTellsSpec : ChangeSpec := { name := "thawTells", fn := fun _ => fun
  | [d1, d2, d3] => { results := [.lit (.bool true)], args := [d1, d2, d3] }
  | _ => none }
def thawTellsRow : OpenClaim := { program := "ytlkecgjpmnganaa", sum := "0a68af74e200cf231d004c1f69868b7c4de83ffc663eade76f21a5a0016b2198", func := "spile/spilelaw04.ThawTells", spec := "thawTells", unfollowed := true, recurses := true, plainKeys := false, apart := false }
def ThawTellsSaid : Prop := thawTellsRow.holds Try.pinned (OpenSpec.ofChange thawTellsSpec)

/-- ITS FALSE NEIGHBOUR: 'it returns false'. Refute it at one input. -/
def thawTellsWrong : ChangeSpec := { name := "thawTells", fn := fun _ => fun
  | [d1, d2, d3] => { results := [.lit (.bool false)], args := [d1, d2, d3] }
  | _ => none }
def ThawTellsWrongFalsely : Prop := thawTellsRow.holds Try.pinned (OpenSpec.ofChange thawTellsWrong)

/-- 'spilelaw04.ThawCourses': WHATEVER THE INPUT: true; the input reads as it did. -/
def thawCoursesSpec : ChangeSpec := { name := "thawCourses", fn := fun _ => fun
  | [d1, d2] => { results := [.lit (.bool true)], args := [d1, d2] }
  | _ => none }
def thawCoursesRow : OpenClaim := { program := "ytlkecgjpmnganaa", sum := "0a68af74e200cf231d004c1f69868b7c4de83ffc663eade76f21a5a0016b2198", func := "spile/spilelaw04.ThawCourses", spec := "thawCourses", unfollowed := true, recurses := true, plainKeys := false, apart := false }
def ThawCoursesSaid : Prop := thawCoursesRow.holds Try.pinned (OpenSpec.ofChange thawCoursesSpec)

/-- ITS FALSE NEIGHBOUR: 'it returns false'. Refute it at one input. -/
def thawCoursesWrong : ChangeSpec := { name := "thawCourses", fn := fun _ => fun
  | [d1, d2] => { results := [.lit (.bool false)], args := [d1, d2] }
  | _ => none }
def ThawCoursesWrongFalsely : Prop := thawCoursesRow.holds Try.pinned (OpenSpec.ofChange thawCoursesWrong)

/-- 'spilelaw04.ThawRuns': WHATEVER THE INPUT: true; the input reads as it did. -/
def thawRunsSpec : ChangeSpec := { name := "thawRuns", fn := fun _ => fun
  | [d1, d2] => { results := [.lit (.bool true)], args := [d1, d2] }
  | _ => none }
def thawRunsRow : OpenClaim := { program := "ytlkecgjpmnganaa", sum := "0a68af74e200cf231d004c1f69868b7c4de83ffc663eade76f21a5a0016b2198", func := "spile/spilelaw04.ThawRuns", spec := "thawRuns", unfollowed := true, recurses := true, plainKeys := false, apart := false }
def ThawRunsSaid : Prop := thawRunsRow.holds Try.pinned (OpenSpec.ofChange thawRunsSpec)

/-- ITS FALSE NEIGHBOUR: 'it returns false'. Refute it at one input. -/
def thawRunsWrong : ChangeSpec := { name := "thawRuns", fn := fun _ => fun
  | [d1, d2] => { results := [.lit (.bool false)], args := [d1, d2] }
  | _ => none }
def ThawRunsWrongFalsely : Prop := thawRunsRow.holds Try.pinned (OpenSpec.ofChange thawRunsWrong)

/-- 'spilelaw04.ThawNothing': WHATEVER THE INPUT: true; the input reads as it did. -/
def thawNothingSpec : ChangeSpec := { name := "thawNothing", fn := fun _ => fun
  | [d1, d2, d3] => { results := [.lit (.bool true)], args := [d1, d2, d3] }
  | _ => none }
def thawNothingRow : OpenClaim := { program := "ytlkecgjpmnganaa", sum := "0a68af74e200cf231d004c1f69868b7c4de83ffc663eade76f21a5a0016b2198", func := "spile/spilelaw04.ThawNothing", spec := "thawNothing", unfollowed := true, recurses := true, plainKeys := false, apart := false }
def ThawNothingSaid : Prop := thawNothingRow.holds Try.pinned (OpenSpec.ofChange thawNothingSpec)

/-- ITS FALSE NEIGHBOUR: 'it returns false'. Refute it at one input. -/
def thawNothingWrong : ChangeSpec := { name := "thawNothing", fn := fun _ => fun
  | [d1, d2, d3] => { results := [.lit (.bool false)], args := [d1, d2, d3] }
  | _ => none }
def ThawNothingWrongFalsely : Prop := thawNothingRow.holds Try.pinned (OpenSpec.ofChange thawNothingWrong)

/-- 'spilelaw04.ThawParts': WHATEVER THE INPUT: true; the input reads as it did. -/
def thawPartsSpec : ChangeSpec := { name := "thawParts", fn := fun _ => fun
  | [d1, d2, d3] => { results := [.lit (.bool true)], args := [d1, d2, d3] }
  | _ => none }
def thawPartsRow : OpenClaim := { program := "ytlkecgjpmnganaa", sum := "0a68af74e200cf231d004c1f69868b7c4de83ffc663eade76f21a5a0016b2198", func := "spile/spilelaw04.ThawParts", spec := "thawParts", unfollowed := true, recurses := true, plainKeys := false, apart := false }
def ThawPartsSaid : Prop := thawPartsRow.holds Try.pinned (OpenSpec.ofChange thawPartsSpec)

/-- ITS FALSE NEIGHBOUR: 'it returns false'. Refute it at one input. -/
def thawPartsWrong : ChangeSpec := { name := "thawParts", fn := fun _ => fun
  | [d1, d2, d3] => { results := [.lit (.bool false)], args := [d1, d2, d3] }
  | _ => none }
def ThawPartsWrongFalsely : Prop := thawPartsRow.holds Try.pinned (OpenSpec.ofChange thawPartsWrong)

/-- 'spilelaw04.ThawFits': WHATEVER THE INPUT: true; the input reads as it did. -/
def thawFitsSpec : ChangeSpec := { name := "thawFits", fn := fun _ => fun
  | [d1, d2, d3] => { results := [.lit (.bool true)], args := [d1, d2, d3] }
  | _ => none }
def thawFitsRow : OpenClaim := { program := "ytlkecgjpmnganaa", sum := "0a68af74e200cf231d004c1f69868b7c4de83ffc663eade76f21a5a0016b2198", func := "spile/spilelaw04.ThawFits", spec := "thawFits", unfollowed := true, recurses := true, plainKeys := false, apart := false }
def ThawFitsSaid : Prop := thawFitsRow.holds Try.pinned (OpenSpec.ofChange thawFitsSpec)

/-- ITS FALSE NEIGHBOUR: 'it returns false'. Refute it at one input. -/
def thawFitsWrong : ChangeSpec := { name := "thawFits", fn := fun _ => fun
  | [d1, d2, d3] => { results := [.lit (.bool false)], args := [d1, d2, d3] }
  | _ => none }
def ThawFitsWrongFalsely : Prop := thawFitsRow.holds Try.pinned (OpenSpec.ofChange thawFitsWrong)

/-- 'spilelaw04.ThawExtremes': WHATEVER THE INPUT: true; the input reads as it did. -/
def thawExtremesSpec : ChangeSpec := { name := "thawExtremes", fn := fun _ => fun
  | [d1, d2] => { results := [.lit (.bool true)], args := [d1, d2] }
  | _ => none }
def thawExtremesRow : OpenClaim := { program := "ytlkecgjpmnganaa", sum := "0a68af74e200cf231d004c1f69868b7c4de83ffc663eade76f21a5a0016b2198", func := "spile/spilelaw04.ThawExtremes", spec := "thawExtremes", unfollowed := true, recurses := true, plainKeys := false, apart := false }
def ThawExtremesSaid : Prop := thawExtremesRow.holds Try.pinned (OpenSpec.ofChange thawExtremesSpec)

/-- ITS FALSE NEIGHBOUR: 'it returns false'. Refute it at one input. -/
def thawExtremesWrong : ChangeSpec := { name := "thawExtremes", fn := fun _ => fun
  | [d1, d2] => { results := [.lit (.bool false)], args := [d1, d2] }
  | _ => none }
def ThawExtremesWrongFalsely : Prop := thawExtremesRow.holds Try.pinned (OpenSpec.ofChange thawExtremesWrong)

/-- 'spilelaw04.ThawDays': WHATEVER THE INPUT: true; the input reads as it did. -/
def thawDaysSpec : ChangeSpec := { name := "thawDays", fn := fun _ => fun
  | [d1, d2] => { results := [.lit (.bool true)], args := [d1, d2] }
  | _ => none }
def thawDaysRow : OpenClaim := { program := "ytlkecgjpmnganaa", sum := "0a68af74e200cf231d004c1f69868b7c4de83ffc663eade76f21a5a0016b2198", func := "spile/spilelaw04.ThawDays", spec := "thawDays", unfollowed := true, recurses := true, plainKeys := false, apart := false }
def ThawDaysSaid : Prop := thawDaysRow.holds Try.pinned (OpenSpec.ofChange thawDaysSpec)

/-- ITS FALSE NEIGHBOUR: 'it returns false'. Refute it at one input. -/
def thawDaysWrong : ChangeSpec := { name := "thawDays", fn := fun _ => fun
  | [d1, d2] => { results := [.lit (.bool false)], args := [d1, d2] }
  | _ => none }
def ThawDaysWrongFalsely : Prop := thawDaysRow.holds Try.pinned (OpenSpec.ofChange thawDaysWrong)

/-- 'spilelaw04.ThawTruths': WHATEVER THE INPUT: true; the input reads as it did. -/
def thawTruthsSpec : ChangeSpec := { name := "thawTruths", fn := fun _ => fun
  | [d1, d2, d3] => { results := [.lit (.bool true)], args := [d1, d2, d3] }
  | _ => none }
def thawTruthsRow : OpenClaim := { program := "ytlkecgjpmnganaa", sum := "0a68af74e200cf231d004c1f69868b7c4de83ffc663eade76f21a5a0016b2198", func := "spile/spilelaw04.ThawTruths", spec := "thawTruths", unfollowed := true, recurses := true, plainKeys := false, apart := false }
def ThawTruthsSaid : Prop := thawTruthsRow.holds Try.pinned (OpenSpec.ofChange thawTruthsSpec)

/-- ITS FALSE NEIGHBOUR: 'it returns false'. Refute it at one input. -/
def thawTruthsWrong : ChangeSpec := { name := "thawTruths", fn := fun _ => fun
  | [d1, d2, d3] => { results := [.lit (.bool false)], args := [d1, d2, d3] }
  | _ => none }
def ThawTruthsWrongFalsely : Prop := thawTruthsRow.holds Try.pinned (OpenSpec.ofChange thawTruthsWrong)

/-- 'spilelaw04.ThawGives': WHATEVER THE INPUT: true; the input reads as it did. -/
def thawGivesSpec : ChangeSpec := { name := "thawGives", fn := fun _ => fun
  | [d1, d2, d3] => { results := [.lit (.bool true)], args := [d1, d2, d3] }
  | _ => none }
def thawGivesRow : OpenClaim := { program := "ytlkecgjpmnganaa", sum := "0a68af74e200cf231d004c1f69868b7c4de83ffc663eade76f21a5a0016b2198", func := "spile/spilelaw04.ThawGives", spec := "thawGives", unfollowed := true, recurses := true, named := ["math/bits.divideError", "math/bits.overflowError"], plainKeys := false, apart := false }
def ThawGivesSaid : Prop := thawGivesRow.holds Try.pinned (OpenSpec.ofChange thawGivesSpec)

/-- ITS FALSE NEIGHBOUR: 'it returns false'. Refute it at one input. -/
def thawGivesWrong : ChangeSpec := { name := "thawGives", fn := fun _ => fun
  | [d1, d2, d3] => { results := [.lit (.bool false)], args := [d1, d2, d3] }
  | _ => none }
def ThawGivesWrongFalsely : Prop := thawGivesRow.holds Try.pinned (OpenSpec.ofChange thawGivesWrong)

/-- 'spilelaw04.ThawSums': WHATEVER THE INPUT: true; the input reads as it did. -/
def thawSumsSpec : ChangeSpec := { name := "thawSums", fn := fun _ => fun
  | [d1, d2, d3] => { results := [.lit (.bool true)], args := [d1, d2, d3] }
  | _ => none }
def thawSumsRow : OpenClaim := { program := "ytlkecgjpmnganaa", sum := "0a68af74e200cf231d004c1f69868b7c4de83ffc663eade76f21a5a0016b2198", func := "spile/spilelaw04.ThawSums", spec := "thawSums", unfollowed := true, recurses := true, named := ["math/bits.divideError", "math/bits.overflowError"], plainKeys := false, apart := false }
def ThawSumsSaid : Prop := thawSumsRow.holds Try.pinned (OpenSpec.ofChange thawSumsSpec)

/-- ITS FALSE NEIGHBOUR: 'it returns false'. Refute it at one input. -/
def thawSumsWrong : ChangeSpec := { name := "thawSums", fn := fun _ => fun
  | [d1, d2, d3] => { results := [.lit (.bool false)], args := [d1, d2, d3] }
  | _ => none }
def ThawSumsWrongFalsely : Prop := thawSumsRow.holds Try.pinned (OpenSpec.ofChange thawSumsWrong)

/- THE SECOND FORM. 'bulk': how many values and letters a reading holds, each counted each time it is reached (what is shared counts as often as it is met; a slice's spare places count too). A statement '..UptoSaid' is the law's where the arguments, and the package variables that the reading takes, are together of bulk at most 1048576: NARROWER than '..Said'. Prove '..Said' where nothing that the law and all that it calls make is longer than what came in: it says more and counts as full. Else prove '..UptoSaid'. A law counts once. -/
mutual
def uptoBulk {H : Type} : DataW H → Nat
  | .lit (.string bytes) => bytes.length + 1
  | .lit _ => 1
  | .nil => 1
  | .ptr d => uptoBulk d + 1
  | .slice elems spare => uptoBulkAll elems + uptoBulkAll spare + 1
  | .agg parts => uptoBulkAll parts + 1
  | .iface _ d => uptoBulk d + 1
  | .map entries => uptoBulkEntries entries + 1
  | .held _ => 1
def uptoBulkAll {H : Type} : List (DataW H) → Nat
  | [] => 0
  | d :: r => uptoBulk d + uptoBulkAll r
def uptoBulkEntries {H : Type} : List (Lit × DataW H) → Nat
  | [] => 0
  | x :: r => uptoBulkEntry x + uptoBulkEntries r
def uptoBulkEntry {H : Type} : Lit × DataW H → Nat
  | (.string bytes, d) => bytes.length + uptoBulk d + 1
  | (_, d) => uptoBulk d + 1
 end
def uptoSmall : (H : Type) → List (DataW H) → Bool := fun _ ds => decide (uptoBulkAll ds ≤ 1048576)
def OpenSpec.upto (s : _root_.Go.ChangeSpec) : _root_.Go.OpenSpec := { _root_.Go.OpenSpec.ofChange s with cond := some uptoSmall }

/-- 'spilelaw04.ThawTells', WHERE WHAT IT READS IS OF BULK AT MOST 1048576: true; the input reads as it did. -/
def thawTellsUptoRow : OpenClaim := { program := "ytlkecgjpmnganaa", sum := "0a68af74e200cf231d004c1f69868b7c4de83ffc663eade76f21a5a0016b2198", func := "spile/spilelaw04.ThawTells", spec := "thawTells", unfollowed := true, recurses := true, plainKeys := false, apart := false, narrowed := true }
def ThawTellsUptoSaid : Prop := thawTellsUptoRow.holds Try.pinned (OpenSpec.upto thawTellsSpec)

/-- 'spilelaw04.ThawCourses', WHERE WHAT IT READS IS OF BULK AT MOST 1048576: true; the input reads as it did. -/
def thawCoursesUptoRow : OpenClaim := { program := "ytlkecgjpmnganaa", sum := "0a68af74e200cf231d004c1f69868b7c4de83ffc663eade76f21a5a0016b2198", func := "spile/spilelaw04.ThawCourses", spec := "thawCourses", unfollowed := true, recurses := true, plainKeys := false, apart := false, narrowed := true }
def ThawCoursesUptoSaid : Prop := thawCoursesUptoRow.holds Try.pinned (OpenSpec.upto thawCoursesSpec)

/-- 'spilelaw04.ThawRuns', WHERE WHAT IT READS IS OF BULK AT MOST 1048576: true; the input reads as it did. -/
def thawRunsUptoRow : OpenClaim := { program := "ytlkecgjpmnganaa", sum := "0a68af74e200cf231d004c1f69868b7c4de83ffc663eade76f21a5a0016b2198", func := "spile/spilelaw04.ThawRuns", spec := "thawRuns", unfollowed := true, recurses := true, plainKeys := false, apart := false, narrowed := true }
def ThawRunsUptoSaid : Prop := thawRunsUptoRow.holds Try.pinned (OpenSpec.upto thawRunsSpec)

/-- 'spilelaw04.ThawNothing', WHERE WHAT IT READS IS OF BULK AT MOST 1048576: true; the input reads as it did. -/
def thawNothingUptoRow : OpenClaim := { program := "ytlkecgjpmnganaa", sum := "0a68af74e200cf231d004c1f69868b7c4de83ffc663eade76f21a5a0016b2198", func := "spile/spilelaw04.ThawNothing", spec := "thawNothing", unfollowed := true, recurses := true, plainKeys := false, apart := false, narrowed := true }
def ThawNothingUptoSaid : Prop := thawNothingUptoRow.holds Try.pinned (OpenSpec.upto thawNothingSpec)

/-- 'spilelaw04.ThawParts', WHERE WHAT IT READS IS OF BULK AT MOST 1048576: true; the input reads as it did. -/
def thawPartsUptoRow : OpenClaim := { program := "ytlkecgjpmnganaa", sum := "0a68af74e200cf231d004c1f69868b7c4de83ffc663eade76f21a5a0016b2198", func := "spile/spilelaw04.ThawParts", spec := "thawParts", unfollowed := true, recurses := true, plainKeys := false, apart := false, narrowed := true }
def ThawPartsUptoSaid : Prop := thawPartsUptoRow.holds Try.pinned (OpenSpec.upto thawPartsSpec)

/-- 'spilelaw04.ThawFits', WHERE WHAT IT READS IS OF BULK AT MOST 1048576: true; the input reads as it did. -/
def thawFitsUptoRow : OpenClaim := { program := "ytlkecgjpmnganaa", sum := "0a68af74e200cf231d004c1f69868b7c4de83ffc663eade76f21a5a0016b2198", func := "spile/spilelaw04.ThawFits", spec := "thawFits", unfollowed := true, recurses := true, plainKeys := false, apart := false, narrowed := true }
def ThawFitsUptoSaid : Prop := thawFitsUptoRow.holds Try.pinned (OpenSpec.upto thawFitsSpec)

/-- 'spilelaw04.ThawExtremes', WHERE WHAT IT READS IS OF BULK AT MOST 1048576: true; the input reads as it did. -/
def thawExtremesUptoRow : OpenClaim := { program := "ytlkecgjpmnganaa", sum := "0a68af74e200cf231d004c1f69868b7c4de83ffc663eade76f21a5a0016b2198", func := "spile/spilelaw04.ThawExtremes", spec := "thawExtremes", unfollowed := true, recurses := true, plainKeys := false, apart := false, narrowed := true }
def ThawExtremesUptoSaid : Prop := thawExtremesUptoRow.holds Try.pinned (OpenSpec.upto thawExtremesSpec)

/-- 'spilelaw04.ThawDays', WHERE WHAT IT READS IS OF BULK AT MOST 1048576: true; the input reads as it did. -/
def thawDaysUptoRow : OpenClaim := { program := "ytlkecgjpmnganaa", sum := "0a68af74e200cf231d004c1f69868b7c4de83ffc663eade76f21a5a0016b2198", func := "spile/spilelaw04.ThawDays", spec := "thawDays", unfollowed := true, recurses := true, plainKeys := false, apart := false, narrowed := true }
def ThawDaysUptoSaid : Prop := thawDaysUptoRow.holds Try.pinned (OpenSpec.upto thawDaysSpec)

/-- 'spilelaw04.ThawTruths', WHERE WHAT IT READS IS OF BULK AT MOST 1048576: true; the input reads as it did. -/
def thawTruthsUptoRow : OpenClaim := { program := "ytlkecgjpmnganaa", sum := "0a68af74e200cf231d004c1f69868b7c4de83ffc663eade76f21a5a0016b2198", func := "spile/spilelaw04.ThawTruths", spec := "thawTruths", unfollowed := true, recurses := true, plainKeys := false, apart := false, narrowed := true }
def ThawTruthsUptoSaid : Prop := thawTruthsUptoRow.holds Try.pinned (OpenSpec.upto thawTruthsSpec)

/-- 'spilelaw04.ThawGives', WHERE WHAT IT READS IS OF BULK AT MOST 1048576: true; the input reads as it did. -/
def thawGivesUptoRow : OpenClaim := { program := "ytlkecgjpmnganaa", sum := "0a68af74e200cf231d004c1f69868b7c4de83ffc663eade76f21a5a0016b2198", func := "spile/spilelaw04.ThawGives", spec := "thawGives", unfollowed := true, recurses := true, named := ["math/bits.divideError", "math/bits.overflowError"], plainKeys := false, apart := false, narrowed := true }
def ThawGivesUptoSaid : Prop := thawGivesUptoRow.holds Try.pinned (OpenSpec.upto thawGivesSpec)

/-- 'spilelaw04.ThawSums', WHERE WHAT IT READS IS OF BULK AT MOST 1048576: true; the input reads as it did. -/
def thawSumsUptoRow : OpenClaim := { program := "ytlkecgjpmnganaa", sum := "0a68af74e200cf231d004c1f69868b7c4de83ffc663eade76f21a5a0016b2198", func := "spile/spilelaw04.ThawSums", spec := "thawSums", unfollowed := true, recurses := true, named := ["math/bits.divideError", "math/bits.overflowError"], plainKeys := false, apart := false, narrowed := true }
def ThawSumsUptoSaid : Prop := thawSumsUptoRow.holds Try.pinned (OpenSpec.upto thawSumsSpec)

end Rows
end Go.Proofs.Ytlkecgjpmnganaa
