/- Two and three integers by value, with their kinds. -/
import Derived.Test.YtlkecgjpmnganaaOpen
import Derived.Carry
import Derived.Test.YtlkecgjpmnganaaRange
set_option linter.unusedSimpArgs false
set_option linter.unusedVariables false
namespace Go.Proofs.Ytlkecgjpmnganaa
open Go.Deep Go.ChangeShapes Go.WideShapes Go.ChangeAt Go.RowKit Go.Shelf

theorem list_two {ns : List Int} (h : ns.length = 2) : ∃ x y, ns = [x, y] := by
  match ns, h with
  | [x, y], _ => exact ⟨x, y, rfl⟩
theorem list_three {ns : List Int} (h : ns.length = 3) : ∃ x y z, ns = [x, y, z] := by
  match ns, h with
  | [x, y, z], _ => exact ⟨x, y, z, rfl⟩
theorem list_four {ns : List Int} (h : ns.length = 4) : ∃ x y z u, ns = [x, y, z, u] := by
  match ns, h with
  | [x, y, z, u], _ => exact ⟨x, y, z, u, rfl⟩

theorem open_flat2 {H : Type} {enc : TypeId × Value → H} {P : Program} {w : World} {r : Reach} {b0 base : Nat} {spare : Nat → Bool} {held : Bool} {t : TypeId} {v : Value} {d : DataW H} {ps : List MemPlace} (k0 k1 : IntKind)
    (ht : (match P.underlying t with | some (.struct _) | some (.array _ _) => true | _ => false) = true) (hc : P.cellsOf t = 2) (hk : (List.range 2).map (kindAt P 4 t) = [some k0, some k1])
    (hval : Value.okWide P w r b0 t v) (hd : DataW.Trod enc P w base spare held t v d ps) :
    ∃ x y : Int, v = .agg #[.int k0 x, .int k1 y] ∧ (Lit.int k0 x).wf = true ∧ (Lit.int k1 y).wf = true := by
  obtain ⟨ns, h1, h2, h3⟩ := open_flat (F := 4) [k0, k1] ht hc hk hval hd
  obtain ⟨x, y, rfl⟩ := list_two h1
  exact ⟨x, y, h2.trans (by simp), by simpa using h3 0 (by simp), by simpa using h3 1 (by simp)⟩

theorem open_flat3 {H : Type} {enc : TypeId × Value → H} {P : Program} {w : World} {r : Reach} {b0 base : Nat} {spare : Nat → Bool} {held : Bool} {t : TypeId} {v : Value} {d : DataW H} {ps : List MemPlace} (k0 k1 k2 : IntKind)
    (ht : (match P.underlying t with | some (.struct _) | some (.array _ _) => true | _ => false) = true) (hc : P.cellsOf t = 3) (hk : (List.range 3).map (kindAt P 4 t) = [some k0, some k1, some k2])
    (hval : Value.okWide P w r b0 t v) (hd : DataW.Trod enc P w base spare held t v d ps) :
    ∃ x y z : Int, v = .agg #[.int k0 x, .int k1 y, .int k2 z] ∧ (Lit.int k0 x).wf = true ∧ (Lit.int k1 y).wf = true ∧ (Lit.int k2 z).wf = true := by
  obtain ⟨ns, h1, h2, h3⟩ := open_flat (F := 4) [k0, k1, k2] ht hc hk hval hd
  obtain ⟨x, y, z, rfl⟩ := list_three h1
  exact ⟨x, y, z, h2.trans (by simp), by simpa using h3 0 (by simp), by simpa using h3 1 (by simp), by simpa using h3 2 (by simp)⟩

theorem open_flat4 {H : Type} {enc : TypeId × Value → H} {P : Program} {w : World} {r : Reach} {b0 base : Nat} {spare : Nat → Bool} {held : Bool} {t : TypeId} {v : Value} {d : DataW H} {ps : List MemPlace} (k0 k1 k2 k3 : IntKind)
    (ht : (match P.underlying t with | some (.struct _) | some (.array _ _) => true | _ => false) = true) (hc : P.cellsOf t = 4) (hk : (List.range 4).map (kindAt P 4 t) = [some k0, some k1, some k2, some k3])
    (hval : Value.okWide P w r b0 t v) (hd : DataW.Trod enc P w base spare held t v d ps) :
    ∃ x y z u : Int, v = .agg #[.int k0 x, .int k1 y, .int k2 z, .int k3 u] ∧ (Lit.int k0 x).wf = true ∧ (Lit.int k1 y).wf = true ∧ (Lit.int k2 z).wf = true ∧ (Lit.int k3 u).wf = true := by
  obtain ⟨ns, h1, h2, h3⟩ := open_flat (F := 4) [k0, k1, k2, k3] ht hc hk hval hd
  obtain ⟨x, y, z, u, rfl⟩ := list_four h1
  exact ⟨x, y, z, u, h2.trans (by simp), by simpa using h3 0 (by simp), by simpa using h3 1 (by simp), by simpa using h3 2 (by simp), by simpa using h3 3 (by simp)⟩

theorem wf_bounds {k : IntKind} {n : Int} (h : (Lit.int k n).wf = true) : k.min ≤ n ∧ n ≤ k.max := by
  simpa [Lit.wf] using h
theorem wf_i16 {n : Int} (h : (Lit.int .i16 n).wf = true) : -32768 ≤ n ∧ n ≤ 32767 := by
  simp [Lit.wf, IntKind.min, IntKind.max, IntKind.signed, IntKind.bits] at h
  exact h
theorem wf_i32 {n : Int} (h : (Lit.int .i32 n).wf = true) : -2147483648 ≤ n ∧ n ≤ 2147483647 := by
  simp [Lit.wf, IntKind.min, IntKind.max, IntKind.signed, IntKind.bits] at h
  exact h
theorem wf_u8 {n : Int} (h : (Lit.int .u8 n).wf = true) : 0 ≤ n ∧ n ≤ 255 := by
  simp [Lit.wf, IntKind.min, IntKind.max, IntKind.signed, IntKind.bits] at h
  exact h
theorem wf_u16 {n : Int} (h : (Lit.int .u16 n).wf = true) : 0 ≤ n ∧ n ≤ 65535 := by
  simp [Lit.wf, IntKind.min, IntKind.max, IntKind.signed, IntKind.bits] at h
  exact h
theorem wf_u32 {n : Int} (h : (Lit.int .u32 n).wf = true) : 0 ≤ n ∧ n ≤ 4294967295 := by
  simp [Lit.wf, IntKind.min, IntKind.max, IntKind.signed, IntKind.bits] at h
  exact h

/-- a slice of structs of ints; a nil one is empty -/
theorem open_list {H : Type} {enc : TypeId × Value → H} {P : Program} {w : World} {r : Reach} {b0 : Nat} {t e : TypeId} {v : Value} {d : DataW H} {ps : List MemPlace} {F : Nat} (ks : List IntKind) (ht : P.underlying t = some (.slice e)) (hc : P.cellsOf e = ks.length) (hk : (List.range ks.length).map (kindAt P F e) = ks.map some) (h0k : 0 < ks.length)
    (hval : Value.okWide P w r b0 t v) (hd : DataW.Trod enc P w 0 (fun _ => true) true t v d ps) :
    ∃ A n c L, v = .slice A n c ∧ L.length = n ∧ n ≤ c ∧ c ≤ maxLen ∧ (A = none → n = 0 ∧ c = 0) ∧ (∀ l ∈ L, l.length = ks.length ∧ ∀ i, i < ks.length → (Lit.int (ks[i]?.getD .i64) (l[i]?.getD 0)).wf = true) ∧
      Elems ks.length (fun (l : List Int) i => Value.int (ks[i]?.getD .i64) (l[i]?.getD 0)) [] w 0 A L := by
  obtain ⟨A, n, c, rfl⟩ := okWide_slice ht hval
  obtain ⟨fuel, hf⟩ := hd
  rcases open_slice ht hf with ⟨hcs, _⟩ | ⟨a, len, cap, m, nn, D, Pl, hcs, hb, hl, hm, hmm, hx, hi⟩
  · simp [Value.cells] at hcs
    obtain ⟨rfl, rfl, rfl⟩ := hcs
    exact ⟨none, 0, 0, [], rfl, rfl, Nat.le_refl _, Nat.zero_le _, fun _ => ⟨rfl, rfl⟩, by simp, fun h => absurd h (by simp)⟩
  · simp [Value.cells] at hcs
    obtain ⟨rfl, rfl, rfl⟩ := hcs
    simp only [if_true] at hmm
    subst hmm
    have hT : ∀ i, i < n → ∃ l : List Int, (l.length = ks.length ∧ ∀ j, j < ks.length → (Lit.int (ks[j]?.getD .i64) (l[j]?.getD 0)).wf = true) ∧ ∀ j, j < ks.length → w.cell? ((a.add (i * ks.length)).add j) = some (Value.int (ks[j]?.getD .i64) (l[j]?.getD 0)) := by
      intro i hin
      obtain ⟨cs', hcs, htr⟩ := hi i (by omega)
      rw [hc] at hcs
      obtain ⟨_, hlen, hat⟩ := World.cells?_some hcs
      obtain ⟨l, h1, h2, h3⟩ := ints_read hk hlen htr
      refine ⟨l, ⟨h1, h3⟩, fun j hj => ?_⟩
      have := hat j hj
      have hjl : j < l.length := by omega
      rw [this, h2, List.getElem?_zipWith, List.getElem?_eq_getElem hj, List.getElem?_eq_getElem hjl]
      rfl
    refine ⟨some a, n, _, (List.range n).map fun i => if h : i < n then (hT i h).choose else [], rfl, by simp, by omega, hm, (fun h => by cases h), ?_, ?_⟩
    · intro l hl'
      obtain ⟨i, hi', rfl⟩ := List.mem_map.1 hl'
      have hin : i < n := by simpa using hi'
      rw [dif_pos hin]
      exact (hT i hin).choose_spec.1
    · intro h0
      have hn : 0 < n := by simpa using h0
      have hs : a.spot = none := by
        obtain ⟨l, _, h1⟩ := hT 0 hn
        have h2 := h1 0 h0k
        have h3 := spot_none' h2
        rw [Nat.zero_mul] at h3
        exact h3
      obtain ⟨b, o, sp⟩ := a
      simp only at hs
      subst hs
      have hadd : ∀ x y : Nat, ((⟨b, o, none⟩ : Addr).add x).add y = ⟨b, o + x + y, none⟩ := by
        intro x y
        unfold Addr.add
        by_cases hx : x = 0 <;> by_cases hy : y = 0 <;> simp [hx, hy]
      refine ⟨b, o, rfl, Nat.zero_le _, World.block_lt_of_cell? w _ (by have := (hT 0 hn).choose_spec.2 0 h0k; rw [hadd] at this; exact this), ?_⟩
      intro j i hj hi3
      have hjn : j < n := by simpa using hj
      have h1 := (hT j hjn).choose_spec.2 i hi3
      rw [hadd] at h1
      rw [h1]
      simp [hjn]

/-- a list of pairs as it is handed on -/
structure PairList (w : World) (A : Option Addr) (n c : Nat) (xs : List R) : Prop where
  len : xs.length = n
  le : n ≤ c
  max : c ≤ maxLen
  none : A = .none → n = 0 ∧ c = 0
  at_ : Ranges w 0 A xs
  bd : ∀ x ∈ xs, (-9223372036854775808 ≤ x.lo ∧ x.lo ≤ 9223372036854775807) ∧ (-9223372036854775808 ≤ x.hi ∧ x.hi ≤ 9223372036854775807)

theorem open_pairs {H : Type} {enc : TypeId × Value → H} {P : Program} {w : World} {r : Reach} {b0 : Nat} {t e : TypeId} {v : Value} {d : DataW H} {ps : List MemPlace} (ht : P.underlying t = some (.slice e)) (hc : P.cellsOf e = 2) (hk : (List.range 2).map (kindAt P 4 e) = [some .i64, some .i64])
    (hval : Value.okWide P w r b0 t v) (hd : DataW.Trod enc P w 0 (fun _ => true) true t v d ps) : ∃ A n c xs, v = .slice A n c ∧ PairList w A n c xs := by
  obtain ⟨A, n, c, L, rfl, hl, h1, h2, h3, h4, h5⟩ := open_list (F := 4) [.i64, .i64] ht hc hk (by simp) hval hd
  refine ⟨A, n, c, L.map fun l => ⟨l[0]?.getD 0, l[1]?.getD 0⟩, rfl, by simpa using hl, h1, h2, h3, ?_, ?_⟩
  · refine Elems.map (d := []) (fun l : List Int => (⟨l[0]?.getD 0, l[1]?.getD 0⟩ : R)) h5 ?_
    intro x _ i hi
    have : i = 0 ∨ i = 1 := by omega
    rcases this with rfl | rfl <;> simp [R.cell]
  · intro x hx
    obtain ⟨l, hl', rfl⟩ := List.mem_map.1 hx
    obtain ⟨_, hw⟩ := h4 l hl'
    exact ⟨wf_i64 (by simpa using hw 0 (by simp)), wf_i64 (by simpa using hw 1 (by simp))⟩

/-- a list of ints as it is handed on -/
structure IntList (w : World) (A : Option Addr) (n c : Nat) (xs : List Int) : Prop where
  len : xs.length = n
  le : n ≤ c
  max : c ≤ maxLen
  none : A = .none → n = 0 ∧ c = 0
  at_ : Ints w 0 A xs
  bd : ∀ x ∈ xs, -9223372036854775808 ≤ x ∧ x ≤ 9223372036854775807

theorem open_numbers {H : Type} {enc : TypeId × Value → H} {P : Program} {w : World} {r : Reach} {b0 : Nat} {t e : TypeId} {v : Value} {d : DataW H} {ps : List MemPlace} (ht : P.underlying t = some (.slice e)) (hc : P.cellsOf e = 1) (hk : (List.range 1).map (kindAt P 4 e) = [some .i64])
    (hval : Value.okWide P w r b0 t v) (hd : DataW.Trod enc P w 0 (fun _ => true) true t v d ps) : ∃ A n c xs, v = .slice A n c ∧ IntList w A n c xs := by
  obtain ⟨A, n, c, L, rfl, hl, h1, h2, h3, h4, h5⟩ := open_list (F := 4) [.i64] ht hc hk (by simp) hval hd
  refine ⟨A, n, c, L.map fun l => l[0]?.getD 0, rfl, by simpa using hl, h1, h2, h3, ints_of_elems h5, ?_⟩
  intro x hx
  obtain ⟨l, hl', rfl⟩ := List.mem_map.1 hx
  obtain ⟨_, hw⟩ := h4 l hl'
  exact wf_i64 (by simpa using hw 0 (by simp))

end Go.Proofs.Ytlkecgjpmnganaa
