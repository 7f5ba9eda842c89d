/-
  No cell of these rows narrows 'for every input' (looked for: loops, veiled, ifaces, maps, wideKeys, modest, calm, conditions, laid).
  DERIVED. THE GIVEN ROWS OF THIS SEAT. 4 by the template 'for every input the law returns true; each argument reads behind the call as it read before'; 0 by the template 'total and deterministic' (their statements: YtgpojnghdhophaaTotals.lean).
  GIVEN WITH THE SEED: the statements are not yours to turn. If you find one false, say at which input.
  Laid BY PROGRAM, IN A SANDBOX (cutbox-rows.mjs): the forced cells as the released guide's own fill.sh prints them over the translation 9a54c98940d4933f… (all of the seat's roots in one cut). By AI agents, Wed Nov 11 2026. No macro, syntax, notation, axiom, sorry.
-/
import Derived.Test.YtgpojnghdhophaaChecked
import GoSem.Claim
import GoSem.ClaimJoined
import GoSem.ClaimMapViews
import Derived.JoinedTies
import Derived.KernelRfl
namespace Go.Proofs.Ytgpojnghdhophaa
/- THE CELL 'sum', in the pinned program and in every row, IS THE sha256 OF THE DUMP (.gsa) THAT YtgpojnghdhophaaProg.lean LOADS. Nothing in Lean hashes anything: it is a label: what it is worth is what the hold of that sum in a sandbox is worth. -/
noncomputable def Try.pinned : Pinned := { name := "ytgpojnghdhophaa", sum := "9a54c98940d4933fab8d744d4964deaeb6f6f56cc37f57f640710eb04b221bf8", checked := Try.checked }
namespace Rows
def none {H : Type} : Left H := { results := [], args := [] }

/-- 'spiletop.TopMixedKegs': WHATEVER THE INPUT: true; the input reads as it did. -/
def topMixedKegsSpec : ChangeSpec := { name := "topMixedKegs", fn := fun _ => fun
  | [d1, d2] => { results := [.lit (.bool true)], args := [d1, d2] }
  | _ => none }
def topMixedKegsRow : OpenClaim := { program := "ytgpojnghdhophaa", sum := "9a54c98940d4933fab8d744d4964deaeb6f6f56cc37f57f640710eb04b221bf8", func := "spile/spiletop.TopMixedKegs", spec := "topMixedKegs", unfollowed := true, recurses := true, named := ["math/bits.divideError", "math/bits.overflowError"], apart := false }
def TopMixedKegsSaid : Prop := topMixedKegsRow.holds Try.pinned (OpenSpec.ofChange topMixedKegsSpec)

/-- ITS FALSE NEIGHBOUR: 'it returns false'. Refute it at one input. -/
def topMixedKegsWrong : ChangeSpec := { name := "topMixedKegs", fn := fun _ => fun
  | [d1, d2] => { results := [.lit (.bool false)], args := [d1, d2] }
  | _ => none }
def TopMixedKegsWrongFalsely : Prop := topMixedKegsRow.holds Try.pinned (OpenSpec.ofChange topMixedKegsWrong)

/-- 'spiletop.TopConcentrated': WHATEVER THE INPUT: true; the input reads as it did. -/
def topConcentratedSpec : ChangeSpec := { name := "topConcentrated", fn := fun _ => fun
  | [d1, d2] => { results := [.lit (.bool true)], args := [d1, d2] }
  | _ => none }
def topConcentratedRow : OpenClaim := { program := "ytgpojnghdhophaa", sum := "9a54c98940d4933fab8d744d4964deaeb6f6f56cc37f57f640710eb04b221bf8", func := "spile/spiletop.TopConcentrated", spec := "topConcentrated", unfollowed := true, recurses := true, named := ["math/bits.divideError", "math/bits.overflowError"], apart := false }
def TopConcentratedSaid : Prop := topConcentratedRow.holds Try.pinned (OpenSpec.ofChange topConcentratedSpec)

/-- ITS FALSE NEIGHBOUR: 'it returns false'. Refute it at one input. -/
def topConcentratedWrong : ChangeSpec := { name := "topConcentrated", fn := fun _ => fun
  | [d1, d2] => { results := [.lit (.bool false)], args := [d1, d2] }
  | _ => none }
def TopConcentratedWrongFalsely : Prop := topConcentratedRow.holds Try.pinned (OpenSpec.ofChange topConcentratedWrong)

/-- 'spiletop.TopVacuumSteps': WHATEVER THE INPUT: true; the input reads as it did. -/
def topVacuumStepsSpec : ChangeSpec := { name := "topVacuumSteps", fn := fun _ => fun
  | [d1, d2] => { results := [.lit (.bool true)], args := [d1, d2] }
  | _ => none }
def topVacuumStepsRow : OpenClaim := { program := "ytgpojnghdhophaa", sum := "9a54c98940d4933fab8d744d4964deaeb6f6f56cc37f57f640710eb04b221bf8", func := "spile/spiletop.TopVacuumSteps", spec := "topVacuumSteps", unfollowed := true, recurses := true, apart := false }
def TopVacuumStepsSaid : Prop := topVacuumStepsRow.holds Try.pinned (OpenSpec.ofChange topVacuumStepsSpec)

/-- ITS FALSE NEIGHBOUR: 'it returns false'. Refute it at one input. -/
def topVacuumStepsWrong : ChangeSpec := { name := "topVacuumSteps", fn := fun _ => fun
  | [d1, d2] => { results := [.lit (.bool false)], args := [d1, d2] }
  | _ => none }
def TopVacuumStepsWrongFalsely : Prop := topVacuumStepsRow.holds Try.pinned (OpenSpec.ofChange topVacuumStepsWrong)

/-- 'spiletop.TopSteam': WHATEVER THE INPUT: true; the input reads as it did. -/
def topSteamSpec : ChangeSpec := { name := "topSteam", fn := fun _ => fun
  | [d1, d2] => { results := [.lit (.bool true)], args := [d1, d2] }
  | _ => none }
def topSteamRow : OpenClaim := { program := "ytgpojnghdhophaa", sum := "9a54c98940d4933fab8d744d4964deaeb6f6f56cc37f57f640710eb04b221bf8", func := "spile/spiletop.TopSteam", spec := "topSteam", unfollowed := true, recurses := true, named := ["math/bits.divideError", "math/bits.overflowError"], apart := false }
def TopSteamSaid : Prop := topSteamRow.holds Try.pinned (OpenSpec.ofChange topSteamSpec)

/-- ITS FALSE NEIGHBOUR: 'it returns false'. Refute it at one input. -/
def topSteamWrong : ChangeSpec := { name := "topSteam", fn := fun _ => fun
  | [d1, d2] => { results := [.lit (.bool false)], args := [d1, d2] }
  | _ => none }
def TopSteamWrongFalsely : Prop := topSteamRow.holds Try.pinned (OpenSpec.ofChange topSteamWrong)

/- THE SECOND FORM. 'bulk': how many values and letters a reading holds, each counted each time it is reached (what is shared counts as often as it is met; a slice's spare places count too). A statement '..UptoSaid' is the law's where the arguments, and the package variables that the reading takes, are together of bulk at most 1048576: NARROWER than '..Said'. Prove '..Said' where nothing that the law and all that it calls make is longer than what came in: it says more and counts as full. Else prove '..UptoSaid'. A law counts once. -/
mutual
def uptoBulk {H : Type} : DataW H → Nat
  | .lit (.string bytes) => bytes.length + 1
  | .lit _ => 1
  | .nil => 1
  | .ptr d => uptoBulk d + 1
  | .slice elems spare => uptoBulkAll elems + uptoBulkAll spare + 1
  | .agg parts => uptoBulkAll parts + 1
  | .iface _ d => uptoBulk d + 1
  | .map entries => uptoBulkEntries entries + 1
  | .held _ => 1
def uptoBulkAll {H : Type} : List (DataW H) → Nat
  | [] => 0
  | d :: r => uptoBulk d + uptoBulkAll r
def uptoBulkEntries {H : Type} : List (Lit × DataW H) → Nat
  | [] => 0
  | x :: r => uptoBulkEntry x + uptoBulkEntries r
def uptoBulkEntry {H : Type} : Lit × DataW H → Nat
  | (.string bytes, d) => bytes.length + uptoBulk d + 1
  | (_, d) => uptoBulk d + 1
 end
def uptoSmall : (H : Type) → List (DataW H) → Bool := fun _ ds => decide (uptoBulkAll ds ≤ 1048576)
def OpenSpec.upto (s : _root_.Go.ChangeSpec) : _root_.Go.OpenSpec := { _root_.Go.OpenSpec.ofChange s with cond := some uptoSmall }

/-- 'spiletop.TopMixedKegs', WHERE WHAT IT READS IS OF BULK AT MOST 1048576: true; the input reads as it did. -/
def topMixedKegsUptoRow : OpenClaim := { program := "ytgpojnghdhophaa", sum := "9a54c98940d4933fab8d744d4964deaeb6f6f56cc37f57f640710eb04b221bf8", func := "spile/spiletop.TopMixedKegs", spec := "topMixedKegs", unfollowed := true, recurses := true, named := ["math/bits.divideError", "math/bits.overflowError"], apart := false, narrowed := true }
def TopMixedKegsUptoSaid : Prop := topMixedKegsUptoRow.holds Try.pinned (OpenSpec.upto topMixedKegsSpec)

/-- 'spiletop.TopConcentrated', WHERE WHAT IT READS IS OF BULK AT MOST 1048576: true; the input reads as it did. -/
def topConcentratedUptoRow : OpenClaim := { program := "ytgpojnghdhophaa", sum := "9a54c98940d4933fab8d744d4964deaeb6f6f56cc37f57f640710eb04b221bf8", func := "spile/spiletop.TopConcentrated", spec := "topConcentrated", unfollowed := true, recurses := true, named := ["math/bits.divideError", "math/bits.overflowError"], apart := false, narrowed := true }
def TopConcentratedUptoSaid : Prop := topConcentratedUptoRow.holds Try.pinned (OpenSpec.upto topConcentratedSpec)

/-- 'spiletop.TopVacuumSteps', WHERE WHAT IT READS IS OF BULK AT MOST 1048576: true; the input reads as it did. -/
def topVacuumStepsUptoRow : OpenClaim := { program := "ytgpojnghdhophaa", sum := "9a54c98940d4933fab8d744d4964deaeb6f6f56cc37f57f640710eb04b221bf8", func := "spile/spiletop.TopVacuumSteps", spec := "topVacuumSteps", unfollowed := true, recurses := true, apart := false, narrowed := true }
def TopVacuumStepsUptoSaid : Prop := topVacuumStepsUptoRow.holds Try.pinned (OpenSpec.upto topVacuumStepsSpec)

/-- 'spiletop.TopSteam', WHERE WHAT IT READS IS OF BULK AT MOST 1048576: true; the input reads as it did. -/
def topSteamUptoRow : OpenClaim := { program := "ytgpojnghdhophaa", sum := "9a54c98940d4933fab8d744d4964deaeb6f6f56cc37f57f640710eb04b221bf8", func := "spile/spiletop.TopSteam", spec := "topSteam", unfollowed := true, recurses := true, named := ["math/bits.divideError", "math/bits.overflowError"], apart := false, narrowed := true }
def TopSteamUptoSaid : Prop := topSteamUptoRow.holds Try.pinned (OpenSpec.upto topSteamSpec)

end Rows
end Go.Proofs.Ytgpojnghdhophaa
