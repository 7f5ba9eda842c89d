/- A list copied by an append onto an empty slice of one's own, in a drawn region too. No program's text is read here. -/
import Derived.Test.YtlkecgjpmnganaaThOwn
import Derived.Laws.AppendOwnNone
import Derived.Deep.AppendLies
set_option linter.unusedSimpArgs false
set_option linter.unusedVariables false
namespace Go.Proofs.Ytlkecgjpmnganaa
open Go.RowKit Go.Shelf

theorem wp_append_copy {α : Type} (L : Lay α) {P : Program} {w : World} {o : Oper} {a : Act} {K : Act → World → Prop} {Q : Exit → Act → World → Prop} (s x : Operand) (t : TypeId)
    (ho : o.op = .call { callee := .builtin .append, args := #[s, x], argTypes := #[t, t] })
    (e : TypeId) (i : TypeInfo) (z : Value) (bytes : Nat) (ht : P.underlying t = some (.slice e)) (hi : P.info? e = some i) (hz : i.zero = some z)
    (hsize : i.size = L.k) (hby : i.bytes = bytes) (hzs : z.cells.size = L.k)
    (b : Nat) (hs : a.eval s = .slice (some ⟨b, 0, none⟩) 0 0) (hown : w.ownsRow b e L.k (.slice (some ⟨b, 0, none⟩) 0 0) 0 [])
    (A : Option Addr) (n c : Nat) (lo : Nat) (gs : List α) (hx : a.eval x = .slice A n c) (hat : L.at w lo A gs) (hn : gs.length = n) (h0 : A = none → n = 0 ∧ c = 0)
    (h63 : n ≤ maxLen) (hbytes : n * bytes ≤ 140737488355328) (hb : b < w.heap.size)
    (h : ∀ A' c' w', L.at w' b A' gs → w.grownBy w' (some b) → n ≤ c' → c' ≤ maxLen → K (a.put o.dst (.slice A' n c')) w') : o.wp P a w K Q := by
  cases A with
  | none =>
    obtain ⟨rfl, rfl⟩ := h0 rfl
    obtain rfl : gs = [] := List.eq_nil_of_length_eq_zero hn
    have hrun := run_append_owned_none (P := P) (w := w) b t o.type e i L.k ht hi _ 0 [] hown
    unfold Oper.wp
    simp [execOp, ho, resolve, invoke, builtin, hs, hx, hrun, Result.andThen]
    exact h _ _ _ (fun hp => absurd hp (by simp)) ⟨rfl, rfl, rfl, Nat.le_refl _, fun _ _ _ => rfl⟩ (Nat.le_refl _) (Nat.zero_le _)
  | some ad =>
    have hnews : ∀ j u, (gs.flatMap L.cs)[j]? = some u → w.cell? (ad.add j) = some u := by
      by_cases hp : 0 < gs.length
      · obtain ⟨b2, o2, hA, _, hlb, hc⟩ := hat hp
        obtain rfl := Option.some.inj hA
        exact Lay.news hc
      · obtain rfl : gs = [] := List.eq_nil_of_length_eq_zero (by omega)
        intro j u hu
        simp at hu
    refine wp_append_own w s x t ho b e i z L.k bytes ht hi hz hsize hby hzs L.pos _ 0 [] hs hown ad n c (gs.flatMap L.cs) hx (by rw [L.flat_len, hn]) hnews (L.flat_one gs) (by omega) (by rw [Nat.zero_add]; exact hbytes) (Nat.le_of_lt hb) ?_
    intro v' w' h2 h3 _
    have hk : OwnK L e w' b v' gs := by unfold OwnK; rw [hn]; rw [Nat.zero_add] at h2; exact h2
    obtain ⟨A', c', e1, e2, e3, _, e4⟩ := hk.reads
    subst e1
    rw [hn] at e2 ⊢
    exact h A' c' w' e4 h3 e2 e3

theorem step_append_copy {α : Type} (L : Lay α) {P : Program} {w : World} {ops : Array Oper} {o : Oper} {a : Act} {K : Act → World → Prop} {Q : Exit → Act → World → Prop} {E : Prop} (hgd : o.guard = none) (s x : Operand) (t : TypeId)
    (ho : o.op = .call { callee := .builtin .append, args := #[s, x], argTypes := #[t, t] })
    (e : TypeId) (i : TypeInfo) (z : Value) (bytes : Nat) (ht : P.underlying t = some (.slice e)) (hi : P.info? e = some i) (hz : i.zero = some z)
    (hsize : i.size = L.k) (hby : i.bytes = bytes) (hzs : z.cells.size = L.k)
    (b : Nat) (hs : a.eval s = .slice (some ⟨b, 0, none⟩) 0 0) (hown : w.ownsRow b e L.k (.slice (some ⟨b, 0, none⟩) 0 0) 0 [])
    (A : Option Addr) (n c : Nat) (lo : Nat) (gs : List α) (hx : a.eval x = .slice A n c) (hat : L.at w lo A gs) (hn : gs.length = n) (h0 : A = none → n = 0 ∧ c = 0)
    (h63 : n ≤ maxLen) (hbytes : n * bytes ≤ 140737488355328) (hb : b < w.heap.size)
    (h : ∀ A' c' w', L.at w' b A' gs → w.grownBy w' (some b) → n ≤ c' → c' ≤ maxLen → K (a.put o.dst (.slice A' n c')) w') :
    if Region.wanted o (yielded ops a.tmps) = true then Oper.wp P o a w K Q else E := by
  have hw : Region.wanted o (yielded ops a.tmps) = true := by simp [Region.wanted, hgd]
  rw [if_pos hw]
  exact wp_append_copy L s x t ho e i z bytes ht hi hz hsize hby hzs b hs hown A n c lo gs hx hat hn h0 h63 hbytes hb h

end Go.Proofs.Ytlkecgjpmnganaa
