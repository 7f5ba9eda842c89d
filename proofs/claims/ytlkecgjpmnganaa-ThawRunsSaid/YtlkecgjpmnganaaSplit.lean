/- A function's walk cut into declarations: its first statements, and what follows under a name. No program's text is read here. -/
import Derived.Test.YtlkecgjpmnganaaLib
set_option linter.unusedSimpArgs false
set_option linter.unusedVariables false
namespace Go.Proofs.Ytlkecgjpmnganaa
open Go.RowKit Go.Shelf

/-- what follows the first n statements -/
def dropC : Nat → Code → Code
  | n + 1, .seq _ y => dropC n y
  | _, c => c
/-- the first n statements, then R -/
def mkC : Nat → Code → Code → Code
  | 0, _, R => R
  | n + 1, .seq x y, R => .seq x (mkC n y R)
  | _ + 1, c, _ => c
def bodyC (f : Func) : Code := f.body.getD .skip

theorem mkC_drop : ∀ (n : Nat) (c : Code), mkC n c (dropC n c) = c
  | 0, c => by cases c <;> rfl
  | n + 1, c => by
    cases c
    case seq x y => show Code.seq x (mkC n y (dropC n y)) = _; rw [mkC_drop n y]
    all_goals rfl

theorem dropC_add (m : Nat) : ∀ (n : Nat) (c : Code), dropC m (dropC n c) = dropC (n + m) c
  | 0, c => by
    rw [Nat.zero_add]
    show dropC m (dropC 0 c) = _
    cases c <;> rfl
  | n + 1, c => by
    rw [show n + 1 + m = (n + m) + 1 by omega]
    cases c
    case seq x y => exact dropC_add m n y
    all_goals
      show dropC m _ = _
      cases m <;> rfl

theorem wp_tail {P : Program} {Q : Exit → Act → World → Prop} {a : Act} {w : World} (n : Nat) {c R : Code} (hR : R = dropC n c) (h : (mkC n c R).wp P Q a w) : c.wp P Q a w := by
  rw [hR, mkC_drop] at h
  exact h
theorem drop_tail {f : Func} {n m : Nat} : dropC (n + m) (bodyC f) = dropC m (dropC n (bodyC f)) := (dropC_add m n _).symm

end Go.Proofs.Ytlkecgjpmnganaa
