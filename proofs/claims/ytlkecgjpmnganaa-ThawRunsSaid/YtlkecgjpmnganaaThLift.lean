/- A region that draws its order, inside a round, by the rules of the plain calculus. No program's text is read here. -/
import Derived.Test.YtlkecgjpmnganaaThRange
import Derived.OrdersIn
import Derived.Deep.RegionHeld
set_option linter.unusedSimpArgs false
set_option linter.unusedVariables false
namespace Go.Proofs.Ytlkecgjpmnganaa
open Go.RowKit Go.Shelf

theorem rows_wide {l n : Nat} {P : Program} {row : String} {args : Array Value} {w : World} {R : Value → World → Prop} (h : Rows P row args w R) : RowsIn (Fence.wide.inRound l) n P row args w R :=
  fun c cs _ => let ⟨v, w', r, s⟩ := h c cs; ⟨v, w', r, stepsIn_wide.2 s⟩

theorem oper_lift {l n : Nat} {P : Program} {o : Oper} {a : Act} {w : World} {K : Act → World → Prop} {Q : Exit → Act → World → Prop} (hd : ∀ c, o.op ≠ .defer c) (h : o.wp P a w K Q) : o.wpIn (Fence.wide.inRound l) n P a w K Q := by
  unfold Oper.wpIn
  refine ⟨fun f _ => trivial, ?_⟩
  rw [Oper.semAt_eq _ _ _ hd]
  unfold Oper.wp at h
  generalize (execOp a.eval o).run P w = r at h ⊢
  cases r with
  | ok x w' =>
    cases x with
    | value v => exact h
    | skip => exact h
    | defer d => exact h
    | enter f args => exact ⟨(fun h0 => by simp [Fence.inRound, Fence.wide] at h0), CallsIn.inRound l (callsIn_wide.2 (h.mono fun e w1 he => by cases e <;> exact he))⟩
    | row row args => exact ⟨(fun h0 => by simp [Fence.inRound, Fence.wide] at h0), rows_wide h⟩
    | _ => exact h.elim
  | halt x w' => cases x <;> first | exact h | exact h.elim

theorem any_lift {l n : Nat} {P : Program} {md : Region.Mode} {ops : Array Oper} {Q : Exit → Act → World → Prop} (hd : ∀ (i : Nat) (o : Oper), ops[i]? = some o → ∀ c, o.op ≠ .defer c) (hQ : ¬ LetsOut Q) :
    ∀ (fuel : Nat) (listed : Array Bool) (a : Act) (w : World), wpAny P md ops Q fuel listed a w → wpAnyIn (Fence.wide.inRound l) n P md ops Q fuel listed a w
  | 0, _, _, _, h => h
  | fuel + 1, listed, a, w, h => by
    refine ⟨h.1, fun i hi => ?_⟩
    have hi' := h.2 i hi
    unfold wpOp at hi'
    unfold wpOpIn
    cases ho : ops[i]? with
    | none => rw [ho] at hi'; exact any_lift hd hQ fuel _ a w hi'
    | some o =>
      rw [ho] at hi'
      dsimp only at hi' ⊢
      by_cases hw : Region.wanted o (yielded ops a.tmps) = true
      · rw [if_pos hw] at hi' ⊢
        rcases hi' with h1 | ⟨_, h1⟩
        · exact Oper.wpIn_mono (fun a' w' h' => any_lift hd hQ fuel _ a' w' h') (oper_lift (hd i o ho) h1)
        · exact absurd h1 hQ
      · rw [if_neg hw] at hi' ⊢
        exact ⟨fun f _ => trivial, any_lift hd hQ fuel _ _ w hi'⟩

theorem region_lift {F : Fence} (hF : Aside (F = Fence.wide)) {l n : Nat} {P : Program} {ops : Array Oper} {id : Nat} {Q : Exit → Act → World → Prop} {S : World → Prop} {a : Act} {w : World} (hm : P.follows .mixedOrders = true)
    (hd : (ops.all fun o => match o.op with | .defer _ => false | _ => true) = true) (hQ : ¬ LetsOut Q) (hS : S w.drew)
    (h : S w.drew → wpAnyH P .any ops Q S ops.size (Array.replicate ops.size false) a w.drew) : (Code.region id ops true).wpIn (F.inRound l) n P Q a w := by
  rw [hF.out]
  refine wpIn_region_any hm (any_lift (fun i o ho c hc => ?_) hQ _ _ _ _ (wpAny_of_held _ _ _ _ (h hS)))
  have := (Array.all_eq_true_iff_forall_mem.1 hd) o (Array.mem_of_getElem? ho)
  rw [hc] at this
  exact absurd this (by simp)


end Go.Proofs.Ytlkecgjpmnganaa
