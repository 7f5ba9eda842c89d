/- A slice of arrays of three uint16, as it is read. -/
import Derived.Test.YtgpojnghdhophaaTMKdef
import Derived.ProofKit
import Derived.OpenShut
import Derived.Deep.Slices
import Derived.Laws.IdiomArrays
import Derived.Carry
set_option linter.unusedSimpArgs false
set_option linter.unusedVariables false
namespace Go.Proofs.Ytgpojnghdhophaa
open Go.Deep Go.ChangeShapes Go.WideShapes Go.ChangeAt Go.RowKit Go.Shelf

theorem spot_none {w : World} {a : Addr} {u : Value} (h : w.cell? a = some u) : a.spot = none := by
  obtain ⟨b, o, sp⟩ := a
  unfold World.cell? at h
  cases sp with
  | none => rfl
  | some x =>
    simp only [Option.isSome_some, if_true] at h
    split at h <;> simp at h

theorem open_trips {H : Type} {enc : TypeId × Value → H} {P : Program} {w : World} {r : Reach} {b0 : Nat} {t e u : TypeId} {v : Value} {d : DataW H} {ps : List MemPlace} (ht : P.underlying t = some (.slice e)) (he : P.underlying e = some (.array 3 u)) (hu : P.underlying u = some (.int .u16)) (hcu : P.cellsOf u = 1) (hce : P.cellsOf e = 3)
    (hval : Value.okWide P w r b0 t v) (hd : DataW.Trod enc P w 0 (fun _ => true) true t v d ps) :
    ∃ A n c L, v = .slice A n c ∧ Trips w 0 A L ∧ L.length = n ∧ n ≤ maxLen ∧ ∀ t ∈ L, t.ok := by
  obtain ⟨A, n, c, rfl⟩ := okWide_slice ht hval
  obtain ⟨fuel, hf⟩ := hd
  rcases open_slice ht hf with ⟨hc, _⟩ | ⟨a, len, cap, m, nn, D, Pl, hc, hb, hl, hm, hmm, hx, hi⟩
  · simp [Value.cells] at hc
    obtain ⟨rfl, rfl, rfl⟩ := hc
    exact ⟨none, 0, 0, [], rfl, fun h => absurd h (by simp), rfl, Nat.zero_le _, by simp⟩
  · simp [Value.cells] at hc
    obtain ⟨rfl, rfl, rfl⟩ := hc
    simp only [if_true] at hmm
    subst hmm
    have hT : ∀ i, i < n → ∃ T : T3, T.ok ∧ w.cell? (a.add (i * 3)) = some (.int .u16 T.x) ∧ w.cell? ((a.add (i * 3)).add 1) = some (.int .u16 T.y) ∧ w.cell? ((a.add (i * 3)).add 2) = some (.int .u16 T.z) := by
      intro i hin
      obtain ⟨cs', hcs, htr⟩ := hi i (by omega)
      rw [hce] at hcs
      obtain ⟨_, hlen, hat⟩ := World.cells?_some hcs
      obtain ⟨c0, c1, c2, rfl⟩ : ∃ c0 c1 c2, cs' = [c0, c1, c2] := by
        match cs', hlen with
        | [a, b, c], _ => exact ⟨a, b, c, rfl⟩
      obtain ⟨y0, y1, y2, k, _, t0, t1, t2⟩ := trod_array3 he hcu htr
      obtain ⟨n0, e0, _, w0⟩ := DataW.trod_int hu t0
      obtain ⟨n1, e1, _, w1⟩ := DataW.trod_int hu t1
      obtain ⟨n2, e2, _, w2⟩ := DataW.trod_int hu t2
      simp only [List.cons.injEq, and_true] at e0 e1 e2
      subst e0
      subst e1
      subst e2
      simp [Lit.wf, IntKind.min, IntKind.max, IntKind.signed, IntKind.bits] at w0 w1 w2
      refine ⟨⟨n0, n1, n2⟩, ⟨w0, w1, w2⟩, ?_, ?_, ?_⟩
      · have := hat 0 (by omega)
        simpa [Addr.add] using this
      · simpa using hat 1 (by omega)
      · simpa using hat 2 (by omega)
    refine ⟨some a, n, _, (List.range n).map fun i => if h : i < n then (hT i h).choose else T3.d, rfl, ?_, by simp, by omega, ?_⟩
    · intro h0
      have hn : 0 < n := by simpa using h0
      have hs : a.spot = none := by
        obtain ⟨T, _, hc0, _⟩ := hT 0 hn
        rw [Nat.zero_mul] at hc0
        exact spot_none hc0
      obtain ⟨b, o, sp⟩ := a
      simp only at hs
      subst hs
      refine ⟨b, o, rfl, Nat.zero_le _, World.block_lt_of_cell? w _ (by have := (hT 0 hn).choose_spec.2.1; simpa [Addr.add] using this), ?_⟩
      intro j i hj hi3
      have hjn : j < n := by simpa using hj
      obtain ⟨_, h0, h1, h2⟩ := (hT j hjn).choose_spec
      have hg : (((List.range n).map fun i => if h : i < n then (hT i h).choose else T3.d)[j]?.getD T3.d) = (hT j hjn).choose := by
        simp [hjn]
      rw [hg]
      generalize (hT j hjn).choose = T at h0 h1 h2
      have hadd : ∀ x y : Nat, ((⟨b, o, none⟩ : Addr).add x).add y = ⟨b, o + x + y, none⟩ := by
        intro x y
        unfold Addr.add
        by_cases hx : x = 0 <;> by_cases hy : y = 0 <;> simp [hx, hy]
      have : i = 0 ∨ i = 1 ∨ i = 2 := by omega
      rcases this with rfl | rfl | rfl
      · have := hadd (j * 3) 0
        simp only [Addr.add, if_true] at this
        simp only [Addr.add] at h0
        rw [this] at h0
        exact h0
      · rw [hadd] at h1; exact h1
      · rw [hadd] at h2; exact h2
    · intro T hTm
      obtain ⟨i, hi', rfl⟩ := List.mem_map.1 hTm
      have hin : i < n := by simpa using hi'
      rw [dif_pos hin]
      exact (hT i hin).choose_spec.1

end Go.Proofs.Ytgpojnghdhophaa
