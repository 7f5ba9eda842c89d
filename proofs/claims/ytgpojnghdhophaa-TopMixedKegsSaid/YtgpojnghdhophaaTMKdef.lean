/- What TopMixedKegs works on: words. -/
import Derived.Test.YtgpojnghdhophaaKnown8
set_option linter.unusedSimpArgs false
set_option linter.unusedVariables false
namespace Go.Proofs.Ytgpojnghdhophaa
open Go.RowKit Go.Shelf

/-- what came in: three numbers -/
structure T3 where
  x : Int
  y : Int
  z : Int
def T3.cell (t : T3) (i : Nat) : Value := if i = 0 then .int .u16 t.x else if i = 1 then .int .u16 t.y else .int .u16 t.z
def T3.d : T3 := ⟨0, 0, 0⟩
abbrev Trips := Elems 3 T3.cell T3.d
def T3.ok (t : T3) : Prop := (0 ≤ t.x ∧ t.x ≤ 65535) ∧ (0 ≤ t.y ∧ t.y ≤ 65535) ∧ (0 ≤ t.z ∧ t.z ≤ 65535)

def T3.sap (t : T3) : R := ⟨t.x, 1 + t.y⟩
def T3.keg (t : T3) : K := ⟨t.x, 1 + t.y, t.z % 1001, 1 + t.z % 9⟩
/-- a concentration: what Brix returns where it returns OK -/
def brixV (s : R) : R := (brixS s).1

/-- what the mathematics says of one input -/
structure TmkM (L : List T3) (part : Int) (W S lt fl il ih hl hh d0 d1 l0 l1 : Int) : Prop where
  mixed : mixedE (L.map T3.keg) = (⟨W, S, lt, fl⟩, 0)
  mix : mixS (L.map T3.sap) = (⟨W, S⟩, 0)
  brix : brixS ⟨W, S⟩ = (⟨il, ih⟩, 0)
  hull : foldS HullJ (L.map fun t => brixV t.sap) = (⟨hl, hh⟩, 0)
  low : hl ≤ il
  high : ih ≤ hh
  mass : 1 ≤ W + S ∧ W + S ≤ 2000000 ∧ 0 ≤ W ∧ 0 ≤ S
  draw : drawE ⟨W, S⟩ (1 + part % (W + S)) = (.agg #[.int .i64 d0, .int .i64 d1], .agg #[.int .i64 l0, .int .i64 l1], 0)
  one : l0 = 0 → l1 = 0 → mixedE [⟨d0, d1, lt, fl⟩] = (⟨W, S, lt, fl⟩, 0)
  two : ¬ (l0 = 0 ∧ l1 = 0) → mixedE [⟨d0, d1, lt, fl⟩, ⟨l0, l1, lt, fl⟩] = (⟨W, S, lt, fl⟩, 0)

end Go.Proofs.Ytgpojnghdhophaa
