/- Arguments as they are read: whatever is made of ints alone (structs, arrays) as a list of ints; a slice of such as a list of lists. No program's text is read here. -/
import Derived.Test.YtlkecgjpmnganaaLib
import Derived.ProofKit
import Derived.OpenShut
import Derived.Deep.Slices
import Derived.Laws.IdiomArrays
import Derived.Carry
set_option linter.unusedSimpArgs false
set_option linter.unusedVariables false
namespace Go.Proofs.Ytlkecgjpmnganaa
open Go.Deep Go.ChangeShapes Go.WideShapes Go.ChangeAt Go.RowKit Go.Shelf

/-- the kind of the int that lies in cell i of a type -/
def kindAt (P : Program) : Nat → TypeId → Nat → Option IntKind
  | 0, _, _ => none
  | F + 1, t, i => match P.underlying t with
    | some (.int k) => if i = 0 then some k else none
    | some (.struct fs) => match fs.toList.find? (fun f => decide (f.offset ≤ i) && decide (i < f.offset + P.cellsOf f.type)) with
      | some f => kindAt P F f.type (i - f.offset)
      | none => none
    | some (.array n e) => if i / P.cellsOf e < n then kindAt P F e (i % P.cellsOf e) else none
    | _ => none

theorem at_sub {cs : List Value} {off m j : Nat} {v : Value} (hj : j < m) (h : ((cs.drop off).take m)[j]? = some v) : cs[off + j]? = some v := by
  rw [List.getElem?_take_of_lt hj, List.getElem?_drop] at h
  exact h

theorem kindAt_read {H : Type} {enc : TypeId × Value → H} {P : Program} {w : World} {base : Nat} {spare : Nat → Bool} {held : Bool} (F : Nat) :
    ∀ (t : TypeId) (i : Nat) (k : IntKind) (fuel : Nat) (cs : List Value) (x : DataW H × List MemPlace), kindAt P F t i = some k → DataW.trod enc P w base spare held fuel t cs = some x → ∃ n, cs[i]? = some (.int k n) ∧ (Lit.int k n).wf = true := by
  induction F with
  | zero => intro t i k fuel cs x hk; simp [kindAt] at hk
  | succ F ih =>
    intro t i k fuel cs x hk hx
    unfold kindAt at hk
    cases hu : P.underlying t with
    | none => simp [hu] at hk
    | some u =>
      rw [hu] at hk
      cases u with
      | int q =>
        simp only at hk
        split at hk
        · injection hk with hk
          subst hk
          rename_i hi
          subst hi
          obtain ⟨n, rfl, _, hw⟩ := DataW.trod_int hu hx
          exact ⟨n, rfl, hw⟩
        · simp at hk
      | struct fs =>
        simp only at hk
        split at hk
        · rename_i f hf
          have hp := List.find?_some hf
          have hm := List.mem_of_find?_eq_some hf
          simp only [Bool.and_eq_true, decide_eq_true_eq] at hp
          obtain ⟨j, hj, rfl⟩ := List.getElem_of_mem hm
          obtain ⟨xs, n, _, _, _, hlen, hall⟩ := DataW.trod_struct hu hx
          have hj' : j < xs.length := by rw [hlen]; simpa using hj
          have := hall j fs.toList[j] (by simp [Array.getElem?_eq_getElem (show j < fs.size by simpa using hj)])
          rw [List.getElem?_eq_getElem hj'] at this
          obtain ⟨m, hm1, hm2⟩ := ih _ _ _ _ _ _ hk this
          refine ⟨m, ?_, hm2⟩
          have := at_sub (by omega) hm1
          rwa [show fs.toList[j].offset + (i - fs.toList[j].offset) = i by omega] at this
        · simp at hk
      | array n e =>
        simp only at hk
        split at hk
        · rename_i hlt
          obtain ⟨xs, m, _, _, _, hlen, hall⟩ := DataW.trod_array hu hx
          have hj' : i / P.cellsOf e < xs.length := by omega
          have := hall _ hlt
          rw [List.getElem?_eq_getElem hj'] at this
          obtain ⟨n0, hn1, hn2⟩ := ih _ _ _ _ _ _ hk this
          refine ⟨n0, ?_, hn2⟩
          by_cases hc : P.cellsOf e = 0
          · rw [hc, List.take_zero] at hn1
            simp at hn1
          · have := at_sub (Nat.mod_lt _ (by omega)) hn1
            rwa [Nat.div_add_mod'] at this
        · simp at hk
      | _ => simp at hk

theorem ints_read {H : Type} {enc : TypeId × Value → H} {P : Program} {w : World} {base : Nat} {spare : Nat → Bool} {held : Bool} {F : Nat} {t : TypeId} {ks : List IntKind} {fuel : Nat} {cs : List Value} {x : DataW H × List MemPlace}
    (hk : (List.range ks.length).map (kindAt P F t) = ks.map some) (hl : cs.length = ks.length) (hx : DataW.trod enc P w base spare held fuel t cs = some x) :
    ∃ ns : List Int, ns.length = ks.length ∧ cs = List.zipWith Value.int ks ns ∧ ∀ i, i < ks.length → (Lit.int (ks[i]?.getD .i64) (ns[i]?.getD 0)).wf = true := by
  have h : ∀ i, i < ks.length → ∃ n, cs[i]? = some (.int (ks[i]?.getD .i64) n) ∧ (Lit.int (ks[i]?.getD .i64) n).wf = true := by
    intro i hi
    have := congrArg (fun l => l[i]?) hk
    simp [hi] at this
    exact kindAt_read F t i _ fuel cs x (by rw [this, List.getElem?_eq_getElem hi]; rfl) hx
  refine ⟨(List.range ks.length).map fun i => if h' : i < ks.length then (h i h').choose else 0, by simp, ?_, ?_⟩
  · apply List.ext_getElem?
    intro i
    by_cases hi : i < ks.length
    · rw [(h i hi).choose_spec.1]
      simp [hi]
    · rw [List.getElem?_eq_none (by omega), List.getElem?_eq_none (by simp; omega)]
  · intro i hi
    have := (h i hi).choose_spec.2
    simpa [hi] using this

/-- a struct or an array of ints, by value -/
theorem open_flat {H : Type} {enc : TypeId × Value → H} {P : Program} {w : World} {r : Reach} {b0 base : Nat} {spare : Nat → Bool} {held : Bool} {t : TypeId} {v : Value} {d : DataW H} {ps : List MemPlace} {F : Nat} (ks : List IntKind)
    (ht : (match P.underlying t with | some (.struct _) | some (.array _ _) => true | _ => false) = true) (hc : P.cellsOf t = ks.length) (hk : (List.range ks.length).map (kindAt P F t) = ks.map some)
    (hval : Value.okWide P w r b0 t v) (hd : DataW.Trod enc P w base spare held t v d ps) :
    ∃ ns : List Int, ns.length = ks.length ∧ v = .agg (List.zipWith Value.int ks ns).toArray ∧ ∀ i, i < ks.length → (Lit.int (ks[i]?.getD .i64) (ns[i]?.getD 0)).wf = true := by
  have hv : ∃ cs, v = .agg cs ∧ cs.size = P.cellsOf t := by
    cases hu : P.underlying t with
    | none => rw [hu] at ht; simp at ht
    | some u =>
      rw [hu] at ht
      cases u with
      | struct fs => exact okWide_struct hu hval
      | array n e =>
        simp only [Value.okWide, hu] at hval
        obtain ⟨cs, h1, h2, _⟩ := hval
        exact ⟨cs, h1, h2⟩
      | _ => simp at ht
  obtain ⟨cs, rfl, hsz⟩ := hv
  obtain ⟨fuel, hf⟩ := hd
  obtain ⟨ns, h1, h2, h3⟩ := ints_read (cs := (Value.agg cs).cells.toList) hk (by simp [Value.cells]; omega) hf
  refine ⟨ns, h1, ?_, h3⟩
  rw [← h2]
  simp [Value.cells]

theorem wf_i64 {n : Int} (h : (Lit.int .i64 n).wf = true) : -9223372036854775808 ≤ n ∧ n ≤ 9223372036854775807 := by
  simp [Lit.wf, IntKind.min, IntKind.max, IntKind.signed, IntKind.bits] at h
  exact h

theorem spot_none' {w : World} {a : Addr} {u : Value} (h : w.cell? a = some u) : a.spot = none := by
  obtain ⟨b, o, sp⟩ := a
  unfold World.cell? at h
  cases sp with
  | none => rfl
  | some x =>
    simp only [Option.isSome_some, if_true] at h
    split at h <;> simp at h

/-- a slice of such -/
theorem open_flats {H : Type} {enc : TypeId × Value → H} {P : Program} {w : World} {r : Reach} {b0 : Nat} {t e : TypeId} {v : Value} {d : DataW H} {ps : List MemPlace} {F : Nat} (ks : List IntKind) (ht : P.underlying t = some (.slice e)) (hc : P.cellsOf e = ks.length) (hk : (List.range ks.length).map (kindAt P F e) = ks.map some) (h0k : 0 < ks.length)
    (hval : Value.okWide P w r b0 t v) (hd : DataW.Trod enc P w 0 (fun _ => true) true t v d ps) :
    ∃ A n c L, v = .slice A n c ∧ L.length = n ∧ n ≤ c ∧ c ≤ maxLen ∧ (∀ l ∈ L, l.length = ks.length ∧ ∀ i, i < ks.length → (Lit.int (ks[i]?.getD .i64) (l[i]?.getD 0)).wf = true) ∧
      Elems ks.length (fun (l : List Int) i => Value.int (ks[i]?.getD .i64) (l[i]?.getD 0)) [] w 0 A L := by
  obtain ⟨A, n, c, rfl⟩ := okWide_slice ht hval
  obtain ⟨fuel, hf⟩ := hd
  rcases open_slice ht hf with ⟨hcs, _⟩ | ⟨a, len, cap, m, nn, D, Pl, hcs, hb, hl, hm, hmm, hx, hi⟩
  · simp [Value.cells] at hcs
    obtain ⟨rfl, rfl, rfl⟩ := hcs
    exact ⟨none, 0, 0, [], rfl, rfl, Nat.le_refl _, Nat.zero_le _, by simp, fun h => absurd h (by simp)⟩
  · simp [Value.cells] at hcs
    obtain ⟨rfl, rfl, rfl⟩ := hcs
    simp only [if_true] at hmm
    subst hmm
    have hT : ∀ i, i < n → ∃ l : List Int, (l.length = ks.length ∧ ∀ j, j < ks.length → (Lit.int (ks[j]?.getD .i64) (l[j]?.getD 0)).wf = true) ∧ ∀ j, j < ks.length → w.cell? ((a.add (i * ks.length)).add j) = some (Value.int (ks[j]?.getD .i64) (l[j]?.getD 0)) := by
      intro i hin
      obtain ⟨cs', hcs, htr⟩ := hi i (by omega)
      rw [hc] at hcs
      obtain ⟨_, hlen, hat⟩ := World.cells?_some hcs
      obtain ⟨l, h1, h2, h3⟩ := ints_read hk hlen htr
      refine ⟨l, ⟨h1, h3⟩, fun j hj => ?_⟩
      have := hat j hj
      have hjl : j < l.length := by omega
      rw [this, h2, List.getElem?_zipWith, List.getElem?_eq_getElem hj, List.getElem?_eq_getElem hjl]
      rfl
    refine ⟨some a, n, _, (List.range n).map fun i => if h : i < n then (hT i h).choose else [], rfl, by simp, by omega, hm, ?_, ?_⟩
    · intro l hl'
      obtain ⟨i, hi', rfl⟩ := List.mem_map.1 hl'
      have hin : i < n := by simpa using hi'
      rw [dif_pos hin]
      exact (hT i hin).choose_spec.1
    · intro h0
      have hn : 0 < n := by simpa using h0
      have hs : a.spot = none := by
        obtain ⟨l, _, h1⟩ := hT 0 hn
        have h2 := h1 0 h0k
        have h3 := spot_none' h2
        rw [Nat.zero_mul] at h3
        exact h3
      obtain ⟨b, o, sp⟩ := a
      simp only at hs
      subst hs
      have hadd : ∀ x y : Nat, ((⟨b, o, none⟩ : Addr).add x).add y = ⟨b, o + x + y, none⟩ := by
        intro x y
        unfold Addr.add
        by_cases hx : x = 0 <;> by_cases hy : y = 0 <;> simp [hx, hy]
      refine ⟨b, o, rfl, Nat.zero_le _, World.block_lt_of_cell? w _ (by have := (hT 0 hn).choose_spec.2 0 h0k; rw [hadd] at this; exact this), ?_⟩
      intro j i hj hi3
      have hjn : j < n := by simpa using hj
      have h1 := (hT j hjn).choose_spec.2 i hi3
      rw [hadd] at h1
      rw [h1]
      simp [hjn]

theorem Elems.map {α β : Type} {k : Nat} {enc : α → Nat → Value} {d : α} {enc' : β → Nat → Value} {d' : β} {w : World} {lo : Nat} {A : Option Addr} {xs : List α} (f : α → β) (h : Elems k enc d w lo A xs) (he : ∀ x ∈ xs, ∀ i, i < k → enc x i = enc' (f x) i) : Elems k enc' d' w lo A (xs.map f) := by
  intro hn
  rw [List.length_map] at hn
  obtain ⟨b, o, e, h0, hl, hc⟩ := h hn
  refine ⟨b, o, e, h0, hl, fun j i hj hi => ?_⟩
  rw [List.length_map] at hj
  rw [hc j i hj hi, List.getElem?_map, List.getElem?_eq_getElem hj]
  simp only [Option.getD_some, Option.map_some]
  rw [he _ (List.getElem_mem hj) i hi]

theorem ints_of_elems {w : World} {lo : Nat} {A : Option Addr} {xs : List (List Int)} (h : Elems 1 (fun (l : List Int) i => Value.int (([.i64] : List IntKind)[i]?.getD .i64) (l[i]?.getD 0)) [] w lo A xs) : Ints w lo A (xs.map fun l => l[0]?.getD 0) := by
  intro hn
  rw [List.length_map] at hn
  obtain ⟨b, o, e, h0, hl, hc⟩ := h hn
  refine ⟨b, o, e, h0, hl, fun j hj => ?_⟩
  rw [List.length_map] at hj
  have := hc j 0 hj (by omega)
  simp only [Nat.mul_one, Nat.add_zero] at this
  rw [this, List.getElem?_map, List.getElem?_eq_getElem hj]
  simp

section
variable {H : Type} {enc : TypeId × Value → H} {P : Program}
theorem post_of_below {f : Func} {s : ChangeSpec} {apart fresh handsOn again : Bool} {W W' : World} {args : Array Value} {v : Value} {ds gs : List (DataW H)} {before pa pv : List MemPlace}
    (hW : DataW.Whole enc P f.params.toList s.vars apart W args.toList ds gs before)
    (hres : ∀ (b : Nat) (sp : Nat → Bool) (hd : Bool), DataW.TrodAll enc P W' b sp hd f.resultTypes.toList (v.resultList f.resultTypes.size) (s.fn H (ds ++ gs)).results [])
    (hargs : ∀ sp : Nat → Bool, (∀ p ∈ before, sp p.block = true) → DataW.TrodAll enc P W' 0 sp true f.params.toList args.toList (s.fn H (ds ++ gs)).args pa)
    (hvars : ∀ sp : Nat → Bool, (∀ p ∈ before, sp p.block = true) → DataW.TrodVars enc P W' sp s.vars (s.fn H (ds ++ gs)).vars pv)
    (hps : before = pa ++ pv) (hb : Below W.heap.size W W')
    (hok : ∀ (j : Nat) (t : TypeId) (r : Value), f.resultTypes[j]? = some t → (v.resultList f.resultTypes.size)[j]? = some r → Value.okWide P W' .any 0 t r) :
    s.post enc P f apart fresh handsOn again W args v W' := by
  have hlt : ∀ p ∈ before, p.block < W.heap.size := fun p hp => hW.lt p hp
  have hold : ∀ p ∈ before, (fun b => decide (b < W.heap.size)) p.block = true := fun p hp => by simpa using hlt p hp
  refine ⟨ds, gs, before, [], pa, pv, hW, hres _ _ _, hargs _ hold, hvars _ hold, World.keptBut_mono (fun p hp => ⟨hp, ?_⟩) (hb.frame (· ∈ before)), fun _ => ?_⟩
  · rw [hps, List.mem_append] at hp
    exact Or.inr hp
  · obtain ⟨_, _, _, _, _, hz, hn⟩ := hW
    refine ⟨hok, _, _, ([] ++ pa) ++ pv, ⟨[] ++ pa, pv, trodAll_append (hargs _ (fun _ _ => rfl)) (hres _ _ _), hvars _ (fun _ _ => rfl), rfl, ?_, ?_⟩, ?_⟩
    · intro b off hp
      have hin : MemPlace.cell b off ∈ before := by rw [hps]; simpa using hp
      rw [hb.frozen (hlt _ hin)]
      exact hz b off hin
    · intro ha
      have := hn ha
      rw [hps] at this
      simpa using this
    · intro p hp _
      rw [hps]
      simpa using hp
end

theorem ownKnob_none : ownKnob Try.prog.godebug = none := by kernel_rfl
theorem laidOut_prog : laidOutB Try.prog = true := by kernel_rfl

/-- every argument reads as before behind a call that leaves what was there -/
theorem args_stay {H : Type} {enc : TypeId × Value → H} {W W' : World} (hb : Below W.heap.size W W') :
    ∀ (ts : List TypeId) (vs : List Value) (ds : List (DataW H)) (ps : List MemPlace), (∀ t ∈ ts, Try.prog.readableRec t = true ∧ t < Try.prog.types.size) → (∀ x ∈ ps, x.block < W.heap.size) →
      DataW.TrodAll enc Try.prog W 0 (fun _ => true) true ts vs ds ps → ∀ sp : Nat → Bool, (∀ p ∈ ps, sp p.block = true) → DataW.TrodAll enc Try.prog W' 0 sp true ts vs ds ps := by
  intro ts
  induction ts with
  | nil =>
    intro vs ds ps _ _ h sp _
    obtain ⟨rfl, rfl, rfl⟩ := trodAll_nil h
    exact trodAll_mk0
  | cons t ts ih =>
    intro vs ds ps hr hlt h sp hsp
    obtain ⟨v, vs', d, ds', p, q, rfl, rfl, rfl, h0, hs⟩ := trodAll_cons h
    refine trodAll_cons_mk (WideElems.Trod_stays laidOut_prog (hr t (by simp)).1 (hr t (by simp)).2 h0 (fun x hx => hb.same (hlt x (by simp [hx]))) (fun x hx => hsp x (by simp [hx]))) ?_
    exact ih vs' ds' q (fun t' ht' => hr t' (by simp [ht'])) (fun x hx => hlt x (by simp [hx])) hs sp (fun x hx => hsp x (by simp [hx]))

end Go.Proofs.Ytlkecgjpmnganaa
