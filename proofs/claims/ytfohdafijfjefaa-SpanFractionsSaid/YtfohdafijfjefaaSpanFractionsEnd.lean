/- SpanFractions returns true at every input, and leaves the input as it was. No condition. -/
import Derived.Test.YtfohdafijfjefaaFracAll
import Derived.Test.YtfohdafijfjefaaFlat
set_option linter.unusedSimpArgs false
set_option linter.unusedVariables false
namespace Go.Proofs.Ytfohdafijfjefaa
open Go.Deep Go.ChangeShapes Go.WideShapes Go.ChangeAt Go.RowKit Go.Shelf

set_option maxRecDepth 100000 in
theorem spanFractions_lifted (os : Os) (started : os.Started) (H : Type) (enc : TypeId × Value → H) :
    ReturnsInHanded {} Try.checked os 10 .any (Rows.spanFractionsSpec.pre6 enc Try.prog Try.f10 Rows.spanFractionsRow.domain false) (Rows.spanFractionsSpec.post enc Try.prog Try.f10 false true false false) := by
  refine returnsInHanded_of_change (C := Try.checked) ownKnob_none started (by kernel_rfl) Try.func10
    (ChangeSpec.witness6 (enc := enc) (C := Try.checked) false ⟨#[], #[.agg #[.int .i16 0, .int .i16 0], .agg #[.int .i16 0, .int .i16 0], .int .i32 0], []⟩ 8 (by kernel_rfl) (by kernel_rfl) (by kernel_rfl) (by kernel_rfl)) ?_
  intro W base args ds gs before hval0 hW hcnd _
  have hval : ∀ (j : Nat) t v, Try.f10.params[j]? = some t → args[j]? = some v → Value.okWide Try.prog W .any base t v := hval0
  have hW' := hW
  obtain ⟨p, q, hA0, hV, rfl, hfz, hnd⟩ := hW
  have hA : DataW.TrodAll enc Try.prog W 0 (fun _ => true) true Try.f10.params.toList args.toList ds p := hA0
  rw [Try.params10] at hA hval
  have hkeep := hA
  obtain ⟨v0, v1, v2, d0, d1, d2, p0, p1, p2, rfl, rfl, rfl, h0, h1, h2⟩ := trodAll_three hA
  obtain ⟨rfl, rfl⟩ := trodVars_none hV
  obtain ⟨n0_0, n0_1, rfl, f0_0, f0_1⟩ := open_flat2 .i16 .i16 (by kernel_rfl) (by kernel_rfl) (by kernel_rfl) (hval 0 78 v0 rfl rfl) h0
  obtain ⟨n1_0, n1_1, rfl, f1_0, f1_1⟩ := open_flat2 .i16 .i16 (by kernel_rfl) (by kernel_rfl) (by kernel_rfl) (hval 1 78 v1 rfl rfl) h1
  obtain ⟨n2, rfl, rfl, rfl, f2⟩ := open_int Try.underlying21 (hval 2 21 v2 rfl rfl) h2
  clear hA0 hval0
  simp only [List.append_nil] at hW'
  have hlt : ∀ x ∈ p0 ++ p1, x.block < W.heap.size := fun x hx => hW'.lt x (by simpa using hx)
  refine (frac_walk n0_0 n0_1 n1_0 n1_1 n2 (wf_i16 f0_0) (wf_i16 f0_1) (wf_i16 f1_0) (wf_i16 f1_1) (wf_i32 f2) W).mono fun e W' ⟨he, hb⟩ => ?_
  subst he
  exact ⟨_, rfl, post_of_below (pa := _) (pv := []) hW' (fun _ _ _ => trodAll_mk1 (shut_bool Try.underlying4 _))
    (fun sp hsp => args_stay hb _ _ _ _ (of_decide_eq_true (by kernel_rfl)) (fun x hx => hlt x (by simpa using hx)) hkeep sp (fun x hx => hsp x (by simpa using hx)))
    (fun _ _ => rfl) (by simp) hb (ok_one (by kernel_rfl) rfl (okWide_bool_mk Try.underlying4 _))⟩

theorem spanFractions_proved : Rows.SpanFractionsSaid :=
  OpenClaim.holds_of_wide 10 Try.f10 rfl rfl rfl rfl rfl rfl rfl ⟨rfl, rfl, rfl, rfl, rfl⟩ rfl rfl rfl rfl rfl (by kernel_rfl) Try.func10 (by kernel_rfl)
    (of_decide_eq_true (by kernel_rfl)) (by unfold Func.isWrapper; first | (rw [if_pos (by decide +kernel)]; kernel_rfl) | (rw [if_neg (by decide +kernel)]; exact ⟨rfl, rfl⟩))
    (fun os started H enc _ => spanFractions_lifted os started H enc)

#print axioms spanFractions_proved
end Go.Proofs.Ytfohdafijfjefaa
