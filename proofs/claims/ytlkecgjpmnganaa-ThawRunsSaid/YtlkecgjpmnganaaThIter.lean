/- The iterator over the states of a field. -/
import Derived.Test.YtlkecgjpmnganaaThB
import Derived.Test.YtlkecgjpmnganaaThRange
import Derived.Shelf.Abstract
import Derived.Shelf.RegionOpen
import Derived.OwnWalkIn
import Derived.TacticsInMore
import Derived.LoopNIn
import Derived.LoopIn
set_option linter.unusedSimpArgs false
set_option linter.unusedVariables false
namespace Go.Proofs.Ytlkecgjpmnganaa
open Go.RowKit Go.Shelf
attribute [local go_sem] Oper.semAt_some

theorem wpListIn_load_mid {F : Fence} {n : Nat} {P : Program} {w : World} {ops : Array Oper} {rest : List Oper} {o : Oper} {a : Act} {Q : Exit → Act → World → Prop} (hgd : o.guard = none) (ty : TypeId) (x : Operand) (ho : o.op = .load ty x)
    (b f : Nat) (hx : a.eval x = .pointer (some ⟨b, f, none⟩)) (cs : List Value) (d : TypeDesc) (hc : w.rangeAt b f cs)
    (hu : P.underlying ty = some d) (hd : d.isRow = true) (hi : (P.info? ty).map (·.size) = some cs.length)
    (h : wpListIn F n P ops Q rest (a.put o.dst (.agg cs.toArray)) w) : wpListIn F n P ops Q (o :: rest) a w := by
  refine wpListIn_plain hgd fun K hK' => ?_
  unfold Oper.wpIn
  refine ⟨?_, ?_⟩
  · simp [Oper.about, ho]
  · rw [Oper.semAt_plain F _ _ (by rw [ho]; intro c hc'; cases hc')]
    simp only [execOp, ho, hx, run_loadAt_mid w b f ty cs d hc hu hd hi, Sem.run_bind, Result.andThen_ok, Sem.run_pure]
    exact hK' _ _ h

theorem run_index_row {P : Program} (ty e : TypeId) (m k : Nat) (cs : Array Value) (i : Nat) (w : World) (hu : P.underlying ty = some (.array m e)) (he : (isAgg e).run P w = .ok true w) (hs : (sizeOf e).run P w = .ok k w) (hi : i < m) :
    (Instr.index ty (.agg cs) (.int .i64 i)).run P w = .ok (.agg (cs.extract (i * k) (i * k + k))) w := by
  have h0 : (0 : Int) ≤ i := by omega
  have h1 : (i : Int) < m := by omega
  simp [Instr.index, asIntOf, run_underlying hu, hs, he, h0, h1, part, Sem.run_bind]
  intro h; omega

theorem wpListIn_index_row {F : Fence} {n : Nat} {P : Program} {w : World} {ops : Array Oper} {rest : List Oper} {o : Oper} {a : Act} {Q : Exit → Act → World → Prop} (hgd : o.guard = none) (ty : TypeId) (x y : Operand) (ho : o.op = .index ty x y)
    (v : Value) (hr : (Instr.index ty (a.eval x) (a.eval y)).run P w = .ok v w)
    (h : wpListIn F n P ops Q rest (a.put o.dst v) w) : wpListIn F n P ops Q (o :: rest) a w := by
  refine wpListIn_plain hgd fun K hK' => ?_
  unfold Oper.wpIn
  refine ⟨?_, ?_⟩
  · simp [Oper.about, ho]
  · rw [Oper.semAt_plain F _ _ (by rw [ho]; intro c hc'; cases hc')]
    simp only [execOp, ho, hr, Sem.run_bind, Result.andThen_ok, Sem.run_pure]
    exact hK' _ _ h

/-- a row of a field, as a value -/
def rowF (F : Fl) (c : Nat) : List Value := (List.range 93).map fun j => fC (F ((c : Int), ((j / 3 : Nat) : Int))) (j % 3)
theorem rowF_len (F : Fl) (c : Nat) : (rowF F c).length = 93 := by simp [rowF]
theorem Fld.row {w : World} {b : Nat} {F : Fl} (h : Fld w b F) (c : Nat) (hc : c < 61) : w.rangeAt b (c * 93) (rowF F c) := by
  intro j v hv
  have hj : j < 93 := by have := (List.getElem?_eq_some_iff.1 hv).1; rwa [rowF_len] at this
  have := h c (j / 3) (j % 3) hc (by omega) (by omega)
  rw [show c * 93 + j / 3 * 3 + j % 3 = c * 93 + j by omega] at this
  rw [this]
  simp only [rowF, List.getElem?_map, List.getElem?_range hj, Option.map_some] at hv
  exact hv
theorem fC_three (o : Option (Int × Int)) : Value.agg #[fC o 0, fC o 1, fC o 2] = cV o := by cases o <;> rfl
theorem rowF_at (F : Fl) (c i : Nat) (hi : i < 31) : Value.agg ((rowF F c).toArray.extract (i * 3) (i * 3 + 3)) = cV (F ((c : Int), (i : Int))) := by
  rw [← fC_three]
  congr 1
  apply Array.ext
  · simp [rowF]; omega
  · intro j h1 h2
    have hj : j < 3 := by simpa using h2
    simp only [Array.getElem_extract, List.getElem_toArray, rowF, List.getElem_map, List.getElem_range]
    have e1 : (i * 3 + j) / 3 = i := by omega
    have e2 : (i * 3 + j) % 3 = j := by omega
    rw [e1, e2]
    have : j = 0 ∨ j = 1 ∨ j = 2 := by omega
    rcases this with rfl | rfl | rfl <;> rfl

/-- what has come when k places are over -/
def come (F : Fl) (k : Nat) : List (St × (Int × Int)) := (List.range k).filterMap fun j => (F (((j / 31 : Nat) : Int), ((j % 31 : Nat) : Int))).map fun p => ((((j / 31 : Nat) : Int), ((j % 31 : Nat) : Int)), p)
theorem come_le (F : Fl) (k : Nat) : (come F k).length ≤ k := by
  have := List.length_filterMap_le (fun j => (F (((j / 31 : Nat) : Int), ((j % 31 : Nat) : Int))).map fun p => ((((j / 31 : Nat) : Int), ((j % 31 : Nat) : Int)), p)) (List.range k)
  simpa [come] using this
theorem come_none (F : Fl) (c i : Nat) (hi : i < 31) (h : F ((c : Int), (i : Int)) = none) : come F (c * 31 + i + 1) = come F (c * 31 + i) := by
  have e1 : (c * 31 + i) / 31 = c := by omega
  have e2 : (c * 31 + i) % 31 = i := by omega
  unfold come
  rw [List.range_succ, List.filterMap_append, List.filterMap_cons, List.filterMap_nil, e1, e2, h]
  simp
theorem come_some (F : Fl) (c i : Nat) (hi : i < 31) (p : Int × Int) (h : F ((c : Int), (i : Int)) = some p) : come F (c * 31 + i + 1) = come F (c * 31 + i) ++ [(((c : Int), (i : Int)), p)] := by
  have e1 : (c * 31 + i) / 31 = c := by omega
  have e2 : (c * 31 + i) % 31 = i := by omega
  unfold come
  rw [List.range_succ, List.filterMap_append, List.filterMap_cons, List.filterMap_nil, e1, e2, h]
  simp

theorem come_prefix (F : Fl) {k m : Nat} (h : k ≤ m) : come F k <+: come F m := by
  obtain ⟨d, rfl⟩ : ∃ d, m = k + d := ⟨m - k, by omega⟩
  unfold come
  rw [List.range_add, List.filterMap_append]
  exact List.prefix_append _ _
theorem come_mem {F : Fl} {pre : List (St × (Int × Int))} {x : St × (Int × Int)} (h : pre ++ [x] <+: come F 1891) : F x.1 = some x.2 ∧ ∃ c i : Nat, c < 61 ∧ i < 31 ∧ x.1 = ((c : Int), (i : Int)) := by
  have hm : x ∈ come F 1891 := h.subset (by simp)
  unfold come at hm
  obtain ⟨j, hj, e⟩ := List.mem_filterMap.1 hm
  obtain ⟨p, hp, rfl⟩ := Option.map_eq_some_iff.1 e
  exact ⟨hp, j / 31, j % 31, by have := List.mem_range.1 hj; omega, by omega, rfl⟩
theorem mem_come {F : Fl} {c i : Nat} (hc : c < 61) (hi : i < 31) {p : Int × Int} (h : F ((c : Int), (i : Int)) = some p) : (((c : Int), (i : Int)), p) ∈ come F 1891 := by
  unfold come
  refine List.mem_filterMap.2 ⟨c * 31 + i, List.mem_range.2 (by omega), ?_⟩
  have e1 : (c * 31 + i) / 31 = c := by omega
  have e2 : (c * 31 + i) % 31 = i := by omega
  rw [e1, e2, h]
  rfl

def encS (x : St × (Int × Int)) : Array Value := #[sV x.1, cV (some x.2)]

theorem grown_alloc (w : World) (o : Obj) : w.grownBy (w.alloc o) none := by
  refine ⟨rfl, rfl, rfl, by simp, fun k hk _ => ?_⟩
  show (w.heap.push _)[k]? = _
  rw [Array.getElem?_push, if_neg (Nat.ne_of_lt hk)]

set_option maxHeartbeats 400000 in
theorem from_any (c i : Nat) (hc : c ≤ 60) (hi : i ≤ 30) (w : World) :
    Calls Try.prog 65 #[.agg #[.int .i64 c, .int .i64 i]] w fun e w' => ∃ b, e = .returned (.pointer (some ⟨b, 0, none⟩)) ∧ w.heap.size ≤ b ∧ b < w'.heap.size ∧ Fld w' b (setF (fun _ => none) ((c : Int), (i : Int)) (some (0, 0))) ∧ Wri w' b ∧ Below w.heap.size w w' := by
  have hat := fun W => at_any (w.heap.size + 1) c i hc hi W
  go_enter Try.func65, Try.ntmps65
  go_wp2_with fail
  refine (hat _).mono ?_
  rintro e w1 ⟨rfl, hb1⟩
  have hz1 := hb1.size
  have hF := (Fld.zero (w.alloc (.cells #[.int .i64 c, .int .i64 i] 27)) 151 (0, 0)).below hb1 (by simp)
  have hW := (Wri.new (w.alloc (.cells #[.int .i64 c, .int .i64 i] 27)) Try.zeroCells151 151).below hb1 (by simp)
  simp only [World.size_alloc] at hF hW hz1
  have k0 := hF c i 0 (by omega) (by omega) (by omega)
  have k1 := hF c i 1 (by omega) (by omega) (by omega)
  have k2 := hF c i 2 (by omega) (by omega) (by omega)
  have f0 := hW (c * 93 + i * 3)
  have f1 := hW (c * 93 + i * 3 + 1)
  have f2 := hW (c * 93 + i * 3 + 2)
  simp only [fC, Nat.add_zero] at k0 k1 k2
  go_wp2
  go_ret
  refine ⟨w.heap.size + 1, rfl, by omega, by simp; omega, (hF.put c i (by omega) (by omega) (some (0, 0))), fun o => ?_, (by (try show Below _ _ _); repeat (first | (with_reducible refine Below.setCell ?_ (by first | omega | (simp <;> omega)) _) | (with_reducible refine Below.alloc ?_ (by first | omega | (simp <;> omega)) _) | (with_reducible refine Below.drew ?_) | (with_reducible exact Below.refl _ _) | (with_reducible refine below_call ?_ (by assumption) (by first | omega | (simp <;> omega))) | (with_reducible refine below_call ?_ (Drew.below (by assumption) _) (by first | omega | (simp <;> omega)))))⟩
  simp only [World.frozen?_setCell]
  exact hW o

set_option maxRecDepth 100000 in
set_option maxHeartbeats 2000000 in
/-- the iterator's walk -/
theorem states1_in (F : Fence) (n : Nat) (hf : F.fn 68) (hro : F.round = none) (hn : 1 ≤ n) (l b n₀ : Nat) (G : Fl) (hb : b < n₀) (J : List (St × (Int × Int)) → World → Prop) (W : World) (hn₀ : n₀ ≤ W.heap.size) (hJ : AbidesFrom W.heap.size J)
    (hY : ∀ pre x W1, J pre W1 → pre ++ [x] <+: come G 1891 → YieldAt F (n - 1) Try.prog l (encS x) W1 fun e W' =>
      e = .returned (.bool true) ∧ J (pre ++ [x]) W' ∧ Below n₀ W1 W')
    (hG : Fld W b G) (h0 : J [] W) :
    CallsIn F n Try.prog 68 #[.pointer (some ⟨b, 0, none⟩), .func (.yield l) #[] #[]] W fun e W' => (∃ v, e = .returned v) ∧ J (come G 1891) W' := by
  refine callsIn_of_wp Try.func68 rfl hf ?_ hro
  simp only [Try.ntmps68, List.size_toArray, List.length_cons, List.length_nil, Nat.reduceAdd, Nat.reduceSub, Array.replicate_succ, Array.replicate_zero, List.push_toArray, List.append_toArray, List.nil_append, List.cons_append]
  gi_wp2
  gi_loopw [7] (fun i wr => ∃ c : Nat, c ≤ 61 ∧ i = .int .i64 c ∧ J (come G (c * 31)) wr ∧ Below n₀ W wr ∧ W.heap.size ≤ wr.heap.size)
    (fun i _ => 61 - (intOf i).toNat)
  case atStart => exact ⟨0, Nat.zero_le _, rfl, h0, Below.refl _ _, Nat.le_refl _⟩
  case round =>
    obtain ⟨c, hc, rfl, hJs, hnx, hsz⟩ := hrel
    by_cases hlt : c < 61
    · have hGr := hG.below hnx hb
      have hrow := hGr.row c hlt
      have k1 : (0 : Int) ≤ c := by omega
      have k2 : (c : Int) < 61 := by omega
      gi_wp2_with (refine wpListIn_load_mid rfl 149 _ rfl b (c * 93) (by simp [go_sem]) (rowF G c) _ hrow Try.underlying149 rfl (by rw [rowF_len]; kernel_rfl) ?_)
      gi_loopw [15] (fun i wr2 => ∃ i' : Nat, i' ≤ 31 ∧ i = .int .i64 i' ∧ J (come G (c * 31 + i')) wr2 ∧ Below n₀ W wr2 ∧ W.heap.size ≤ wr2.heap.size)
        (fun i _ => 31 - (intOf i).toNat)
      case atStart => exact ⟨0, Nat.zero_le _, rfl, hJs, hnx, hsz⟩
      case round =>
        obtain ⟨i, hi, rfl, hJ2, hnx2, hsz2⟩ := hrel
        by_cases hlt2 : i < 31
        · have hpart : ∀ (w : World), (Instr.index 149 (.agg (rowF G c).toArray) (.int .i64 i)).run Try.prog w = .ok (cV (G ((c : Int), (i : Int)))) w := fun w => by
            rw [run_index_row 149 118 31 3 _ i w Try.underlying149 (Try.isAgg118 w) (Try.sizeOf118 w) hlt2, rowF_at G c i hlt2]
          have k3 : (0 : Int) ≤ i := by omega
          have k4 : (i : Int) < 31 := by omega
          cases hq : G ((c : Int), (i : Int)) with
          | none =>
            rw [hq] at hpart
            have hcome := come_none G c i hlt2 hq
            gi_wp2_with (refine wpListIn_index_row rfl 149 _ _ rfl (.agg #[.int .i64 0, .int .i64 0, .bool false]) (hpart _) ?_)
            refine ⟨fun _ h => (by cases h), ?_⟩
            gi_wp2
            go_roundw
            case rel => exact ⟨i + 1, by omega, by simp, by rw [show c * 31 + (i + 1) = c * 31 + i + 1 by omega, hcome]; exact hJ _ _ _ none hJ2 (grown_alloc _ _) (fun r e => by cases e), (hnx2.alloc (by omega) _), by simp; omega⟩
            case measure => simp [intOf]; omega
          | some p =>
            obtain ⟨p1, p2⟩ := p
            rw [hq] at hpart
            have hcome := come_some G c i hlt2 (p1, p2) hq
            obtain ⟨fn, tmps, assign, body, hy, hR⟩ := hY _ (((c : Int), (i : Int)), (p1, p2)) (wr.alloc (.cells #[.int .i64 p1, .int .i64 p2, .bool true] 118)) (hJ _ _ _ none hJ2 (grown_alloc _ _) (fun r e => by cases e)) (by rw [← hcome]; exact come_prefix G (by omega))
            simp only [encS, sV, cV] at hy
            gi_wp2_with (refine wpListIn_index_row rfl 149 _ _ rfl (.agg #[.int .i64 p1, .int .i64 p2, .bool true]) (hpart _) ?_)
            refine hR.mono ?_
            rintro e W3 ⟨rfl, hJ3, hk3⟩
            gi_wp2
            go_roundw
            case rel => exact ⟨i + 1, by omega, by simp, by rw [show c * 31 + (i + 1) = c * 31 + i + 1 by omega, hcome]; exact hJ3, (hnx2.alloc (by omega) _).trans hk3, by have := hk3.size; simp at this; omega⟩
            case measure => simp [intOf]; omega
        · obtain rfl : i = 31 := by omega
          gi_wp2
          go_roundw
          case rel => exact ⟨c + 1, by omega, by simp, by rw [Nat.succ_mul]; exact hJ2, hnx2, hsz2⟩
          case measure => simp [intOf]; omega
    · obtain rfl : c = 61 := by omega
      gi_wp2
      go_end0
      exact ⟨⟨_, rfl⟩, hJs⟩

theorem states_gives (F : Fence) (n : Nat) (hf : F.fn 68) (hro : F.round = none) (hn : 1 ≤ n) (b n₀ : Nat) (G : Fl) (w : World) (hb : b < n₀) (hn₀ : n₀ ≤ w.heap.size) (hG : Fld w b G) :
    GivesAll F n Try.prog 68 #[.pointer (some ⟨b, 0, none⟩)] #[] encS n₀ (come G 1891) w := by
  intro l J W hW hJ hY h0
  exact states1_in F n hf hro hn l b n₀ G hb J W (Nat.le_trans hn₀ hW.size) hJ hY (hG.below hW (by omega)) h0


end Go.Proofs.Ytlkecgjpmnganaa
