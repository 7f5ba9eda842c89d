/- The reference's tables: 61 times 31 pairs, as a value and in memory. -/
import Derived.Test.YtlkecgjpmnganaaThSets
import Derived.Deep.MidRow
import Derived.Deep.WholeRow
import Derived.StillTailTactics
set_option linter.unusedSimpArgs false
set_option linter.unusedVariables false
namespace Go.Proofs.Ytlkecgjpmnganaa
open Go.RowKit Go.Shelf

/-- a table -/
abbrev Tb := St → Int × Int
def tabL (T : Tb) : List Value := (List.range 1891).flatMap fun j => [.int .i64 (T (((j / 31 : Nat) : Int), ((j % 31 : Nat) : Int))).1, .int .i64 (T (((j / 31 : Nat) : Int), ((j % 31 : Nat) : Int))).2]
def tabA (T : Tb) : Array Value := (tabL T).toArray
def pk (p : Int × Int) (k : Nat) : Int := if k = 0 then p.1 else p.2
theorem flat2_len (f : Nat → Value) (g : Nat → Value) (n : Nat) : ((List.range n).flatMap fun j => [f j, g j]).length = n * 2 := by
  induction n with
  | zero => rfl
  | succ n ih => rw [List.range_succ, List.flatMap_append, List.length_append, ih]; simp; omega
theorem flat2_at (f : Nat → Value) (g : Nat → Value) (n j : Nat) (h : j < n) : ((List.range n).flatMap fun j => [f j, g j])[j * 2]? = some (f j) ∧ ((List.range n).flatMap fun j => [f j, g j])[j * 2 + 1]? = some (g j) := by
  induction n with
  | zero => omega
  | succ n ih =>
    rw [List.range_succ, List.flatMap_append]
    by_cases hj : j < n
    · rw [List.getElem?_append_left (by rw [flat2_len]; omega), List.getElem?_append_left (by rw [flat2_len]; omega)]
      exact ih hj
    · obtain rfl : j = n := by omega
      rw [List.getElem?_append_right (by rw [flat2_len]; omega), List.getElem?_append_right (by rw [flat2_len]; omega), flat2_len]
      simp
theorem tabL_len (T : Tb) : (tabL T).length = 3782 := by unfold tabL; rw [flat2_len]
theorem tabL_at (T : Tb) (c i k : Nat) (hc : c < 61) (hi : i < 31) (hk : k < 2) : (tabL T)[c * 62 + i * 2 + k]? = some (.int .i64 (pk (T ((c : Int), (i : Int))) k)) := by
  have h := flat2_at (fun j => .int .i64 (T (((j / 31 : Nat) : Int), ((j % 31 : Nat) : Int))).1) (fun j => .int .i64 (T (((j / 31 : Nat) : Int), ((j % 31 : Nat) : Int))).2) 1891 (c * 31 + i) (by omega)
  have e1 : (c * 31 + i) / 31 = c := by omega
  have e2 : (c * 31 + i) % 31 = i := by omega
  simp only [e1, e2] at h
  have hk2 : k = 0 ∨ k = 1 := by omega
  rcases hk2 with rfl | rfl
  · rw [show c * 62 + i * 2 + 0 = (c * 31 + i) * 2 by omega]; exact h.1
  · rw [show c * 62 + i * 2 + 1 = (c * 31 + i) * 2 + 1 by omega]; exact h.2
theorem tabL_one (T : Tb) : ∀ v ∈ tabL T, v.oneCell' = true := by
  intro v hv
  unfold tabL at hv
  obtain ⟨j, _, hv⟩ := List.mem_flatMap.1 hv
  simp at hv
  rcases hv with rfl | rfl <;> rfl
theorem tabA_size (T : Tb) : (tabA T).size = 3782 := by unfold tabA; simp [tabL_len]

/-- a table in memory -/
def Tab (w : World) (b : Nat) (T : Tb) : Prop := ∀ c i k : Nat, c < 61 → i < 31 → k < 2 → w.cell? ⟨b, c * 62 + i * 2 + k, none⟩ = some (.int .i64 (pk (T ((c : Int), (i : Int))) k))
theorem Tab.below {w w' : World} {b B : Nat} {T : Tb} (h : Tab w b T) (hb : Below B w w') (hB : b < B) : Tab w' b T := fun c i k hc hi hk => (hb.cell (p := ⟨b, _, none⟩) hB).trans (h c i k hc hi hk)
theorem Tab.range {w : World} {b : Nat} {T : Tb} (h : Tab w b T) : w.rangeAt b 0 (tabL T) := by
  intro j v hv
  have hj : j < 3782 := by have := (List.getElem?_eq_some_iff.1 hv).1; rwa [tabL_len] at this
  have h1 := tabL_at T (j / 62) (j % 62 / 2) (j % 2) (by omega) (by omega) (by omega)
  have h2 := h (j / 62) (j % 62 / 2) (j % 2) (by omega) (by omega) (by omega)
  have e : j / 62 * 62 + j % 62 / 2 * 2 + j % 2 = j := by omega
  rw [e] at h1 h2
  rw [h1] at hv
  rw [Nat.zero_add, h2, ← hv]
theorem Tab.of_range {w : World} {b : Nat} {T : Tb} (h : w.rangeAt b 0 (tabL T)) : Tab w b T := by
  intro c i k hc hi hk
  have := h _ _ (tabL_at T c i k hc hi hk)
  rwa [Nat.zero_add] at this
theorem Tab.new (w : World) (T : Tb) (t : TypeId) (fr : Nat × Nat) : Tab (w.alloc (.cells (tabA T) t fr)) w.heap.size T := by
  intro c i k hc hi hk
  rw [cell_of_row _ _ _ _ _ _ (heap_alloc_new w _)]
  unfold tabA
  rw [List.getElem?_toArray]
  exact tabL_at T c i k hc hi hk
set_option maxRecDepth 100000 in
theorem zero_tab : Try.zeroCells63 = tabA (fun _ => (0, 0)) := by
  kernel_rfl

/-- one number put down -/
def setT (T : Tb) (s : St) (k : Nat) (v : Int) : Tb := fun t => if t = s then (if k = 0 then (v, (T t).2) else ((T t).1, v)) else T t
theorem Tab.put {w : World} {b : Nat} {T : Tb} (h : Tab w b T) (c i k : Nat) (hc : c < 61) (hi : i < 31) (hk : k < 2) (v : Int) : Tab (w.setCell ⟨b, c * 62 + i * 2 + k, none⟩ (.int .i64 v)) b (setT T ((c : Int), (i : Int)) k v) := by
  intro c' i' k' hc' hi' hk'
  rw [cell_set, h c' i' k' hc' hi' hk']
  unfold setT
  by_cases e : c * 62 + i * 2 + k = c' * 62 + i' * 2 + k'
  · obtain ⟨rfl, rfl, rfl⟩ : c = c' ∧ i = i' ∧ k = k' := by omega
    rw [if_pos ⟨rfl, rfl⟩, if_pos rfl]
    have : k = 0 ∨ k = 1 := by omega
    rcases this with rfl | rfl <;> rfl
  · rw [if_neg (fun h => e h.2)]
    by_cases es : ((c' : Int), (i' : Int)) = ((c : Int), (i : Int))
    · rw [if_pos es]
      obtain ⟨e1, e2⟩ := Prod.mk.inj es
      have : k = 0 ∨ k = 1 := by omega
      have : k' = 0 ∨ k' = 1 := by omega
      have hne : ¬ k' = k := by intro h; apply e; omega
      rcases this with rfl | rfl <;> rcases ‹k = 0 ∨ k = 1› with rfl | rfl <;> first | rfl | (exact absurd rfl hne)
    · rw [if_neg es]

/-- what a field reads as in a table -/
def rawF (F : Fl) : Tb := fun s => match F s with
  | none => (0, 0)
  | some p => (p.1 + 1, p.2 + 1)
def tabV (F : Fl) : Value := .agg (tabA (rawF F))


/-- cells laid down whole -/
def putT (w : World) (b : Nat) (T : Tb) : World := w.setCells b 0 (tabL T)
theorem Tab.there {w : World} {b : Nat} {T : Tb} (h : Tab w b T) (hw : Wri w b) : w.there b 0 3782 := by
  intro j hj
  have h2 := h (j / 62) (j % 62 / 2) (j % 2) (by omega) (by omega) (by omega)
  have e : j / 62 * 62 + j % 62 / 2 * 2 + j % 2 = 0 + j := by omega
  rw [e] at h2
  rw [h2]
  exact ⟨rfl, hw _⟩
theorem putT_size (w : World) (b : Nat) (T : Tb) : (putT w b T).heap.size = w.heap.size := by
  unfold putT
  generalize tabL T = l
  generalize 0 = o
  induction l generalizing w o with
  | nil => rfl
  | cons v l ih => show (World.setCells (w.setCell ⟨b, o, none⟩ v) b (o + 1) l).heap.size = _; rw [ih]; simp
theorem putT_grown (w : World) (b : Nat) (T : Tb) : w.grownBy (putT w b T) (some b) := by
  unfold putT
  generalize tabL T = l
  generalize 0 = o
  induction l generalizing w o with
  | nil => exact grown_refl _ _
  | cons v l ih => exact grown_tr (grown_set w b o v) (ih (w.setCell ⟨b, o, none⟩ v) (o + 1)) (fun r e => Or.inr (by cases e; rfl))
theorem putT_tab {w : World} {b : Nat} {T0 : Tb} (h : Tab w b T0) (hw : Wri w b) (T : Tb) : Tab (putT w b T) b T :=
  Tab.of_range (World.rangeAt_setCells_same w b 0 (tabL T) (by rw [tabL_len]; exact h.there hw))
theorem putT_wri {w : World} {b b' : Nat} (hw : Wri w b') (T : Tb) : Wri (putT w b T) b' := fun o => (World.frozen?_setCells b _ _ _ _).trans (hw o)

/-- the walk's stores and loads of whole tables -/
theorem store_tab {w : World} {b : Nat} {T0 : Tb} (h : Tab w b T0) (hw : Wri w b) (T : Tb) : (storeCells ⟨b, 0, none⟩ (tabA T).toList 0).run Try.prog w = .ok () (putT w b T) := by
  have ht := h.there hw
  have := run_storeCells_cells (P := Try.prog) b 0 (tabA T).toList 0 w (fun j hj => by have := (ht j (by simpa [tabA, tabL_len] using hj)).1; simpa using this) (fun j hj => by have := (ht j (by simpa [tabA, tabL_len] using hj)).2; simpa using this) (fun v hv => tabL_one T v (by simpa [tabA] using hv))
  simpa [putT, tabA] using this
set_option maxRecDepth 100000 in
theorem store_tab_new (w : World) (b : Nat) (T0 T : Tb) (hb : b = w.heap.size) : (storeCells ⟨b, 0, none⟩ (tabA T).toList 0).run Try.prog (w.alloc (.cells (tabA T0) 63)) = .ok () (w.alloc (.cells (tabA T) 63)) := by
  subst hb
  exact run_storeCells_new w _ _ _ (by rw [tabA_size]; kernel_rfl) (by rw [tabA_size, tabA_size]) (by unfold tabA; exact all_oneCell_toArray (tabL_one T))
set_option maxRecDepth 100000 in
theorem load_tab {w : World} {b : Nat} {T : Tb} (h : Tab w b T) : (loadVar 63 ⟨b, 0, none⟩).run Try.prog w = .ok (.agg (tabA T)) w :=
  run_loadVar_mid w b 0 _ (tabL T) _ h.range Try.underlying63 rfl (by rw [tabL_len]; kernel_rfl)

set_option maxRecDepth 100000 in
theorem load_tabA {w : World} {b : Nat} {T : Tb} (h : Tab w b T) : (Instr.loadAt 63 (.pointer (some ⟨b, 0, none⟩))).run Try.prog w = .ok (.agg (tabA T)) w :=
  run_loadAt_mid w b 0 _ (tabL T) _ h.range Try.underlying63 rfl (by rw [tabL_len]; kernel_rfl)
set_option maxRecDepth 100000 in
theorem store_tabA {w : World} {b : Nat} {T0 : Tb} (h : Tab w b T0) (hw : Wri w b) (T : Tb) : (Instr.storeAt 63 (.pointer (some ⟨b, 0, none⟩)) (.agg (tabA T))).run Try.prog w = .ok () (putT w b T) :=
  run_storeAt_mid w b 0 _ (tabA T) (by rw [tabA_size]; exact h.there hw) (by rw [tabA_size]; kernel_rfl) (all_oneCell_toArray (tabL_one T))
set_option maxRecDepth 100000 in
theorem wpList_load_tab {ops : Array Oper} {rest : List Oper} {o : Oper} {a : Act} {w : World} {Q : Exit → Act → World → Prop} (hgd : o.guard = none) (x : Operand) (ho : o.op = .load 63 x)
    (b : Nat) (hx : a.eval x = .pointer (some ⟨b, 0, none⟩)) (T : Tb) (hT : Tab w b T) (h : wpList Try.prog ops Q rest (a.put o.dst (.agg (tabA T))) w) : wpList Try.prog ops Q (o :: rest) a w :=
  wpList_load_mid hgd _ x ho b 0 hx (tabL T) _ hT.range Try.underlying63 rfl (by rw [tabL_len]; kernel_rfl) h
set_option maxRecDepth 100000 in
theorem wpList_store_tab {ops : Array Oper} {rest : List Oper} {o : Oper} {a : Act} {w : World} {Q : Exit → Act → World → Prop} (hgd : o.guard = none) (x y : Operand) (ho : o.op = .store 63 x y)
    (b : Nat) (T : Tb) (hx : a.eval x = .pointer (some ⟨b, 0, none⟩)) (hy : a.eval y = .agg (tabA T)) (T0 : Tb) (hT : Tab w b T0) (hw : Wri w b) (h : wpList Try.prog ops Q rest (a.put o.dst undef) (putT w b T)) : wpList Try.prog ops Q (o :: rest) a w := by
  refine wpList_store_mid hgd _ x y ho b 0 (tabA T) hx hy (by rw [tabA_size]; exact hT.there hw) (by rw [tabA_size]; kernel_rfl) (all_oneCell_toArray (tabL_one T)) ?_
  exact h
theorem Wri.kept {A B : World} {k nb : Nat} (h : Wri A k) (hg : A.grownBy B (some nb)) (hl : k < A.heap.size) (hne : k ≠ nb) : Wri B k := h.same (hg.block k hl (fun e => hne (by cases e; rfl)))
theorem Tab.kept {A B : World} {k nb : Nat} {T : Tb} (h : Tab A k T) (hg : A.grownBy B (some nb)) (hne : k ≠ nb) : Tab B k T := fun c i j hc hi hj => gcell hg (h c i j hc hi hj) hne

set_option maxRecDepth 100000 in
set_option maxHeartbeats 400000 in
theorem refFrom_any (c i : Nat) (hc : c ≤ 60) (hi : i ≤ 30) (w : World) :
    Calls Try.prog 33 #[sV ((c : Int), (i : Int))] w fun e w' => e = .returned (tabV (setF (fun _ => none) ((c : Int), (i : Int)) (some (0, 0)))) ∧ Below w.heap.size w w' := by
  have h1 : (0 : Int) ≤ c := by omega
  have h2 : (c : Int) < 61 := by omega
  have h3 : (0 : Int) ≤ i := by omega
  have h4 : (i : Int) < 31 := by omega
  unfold sV tabV
  obtain ⟨T, hT⟩ : ∃ T, rawF (setF (fun _ => none) ((c : Int), (i : Int)) (some (0, 0))) = T := ⟨_, rfl⟩
  rw [hT]
  go_enter Try.func33, Try.ntmps33
  have hz := fun w b => store_tab_new w b (fun _ => (0, 0)) (fun _ => (0, 0))
  rw [← zero_tab] at hz
  go_wp2_with fail
  go_upto_region 2 with (fail)
  rw [zero_tab]
  obtain ⟨W0, hW0⟩ : ∃ W0, W0 = w.alloc (.cells #[.int .i64 (c : Int), .int .i64 (i : Int)] 27) := ⟨_, rfl⟩
  have hz0 : W0.heap.size = w.heap.size + 1 := by rw [hW0]; simp
  have x0 : W0.cell? ⟨w.heap.size, 0, none⟩ = some (.int .i64 (c : Int)) := by rw [hW0]; simp [go_sem]
  have x1 : W0.cell? ⟨w.heap.size, 1, none⟩ = some (.int .i64 (i : Int)) := by rw [hW0]; simp [go_sem]
  have hB0 : Below w.heap.size w W0 := by rw [hW0]; exact (by (try show Below _ _ _); repeat (first | (with_reducible refine Below.setCell ?_ (by first | omega | (simp <;> omega)) _) | (with_reducible refine Below.alloc ?_ (by first | omega | (simp <;> omega)) _) | (with_reducible refine Below.drew ?_) | (with_reducible exact Below.refl _ _) | (with_reducible refine below_call ?_ (by assumption) (by first | omega | (simp <;> omega))) | (with_reducible refine below_call ?_ (Drew.below (by assumption) _) (by first | omega | (simp <;> omega)))))
  rw [← hW0]
  clear hW0
  obtain ⟨W1, hW1⟩ : ∃ W1, W1 = W0.alloc (.cells (tabA fun _ => (0, 0)) 63) := ⟨_, rfl⟩
  have hT1 : Tab W1 (w.heap.size + 1) (fun _ => (0, 0)) := by rw [hW1, ← hz0]; exact Tab.new _ _ _ _
  have hW1' : Wri W1 (w.heap.size + 1) := by rw [hW1, ← hz0]; exact Wri.new _ _ _
  have hz1 : W1.heap.size = w.heap.size + 1 + 1 := by rw [hW1]; simp; omega
  have hB1 : Below W0.heap.size W0 W1 := by rw [hW1]; exact (by (try show Below _ _ _); repeat (first | (with_reducible refine Below.setCell ?_ (by first | omega | (simp <;> omega)) _) | (with_reducible refine Below.alloc ?_ (by first | omega | (simp <;> omega)) _) | (with_reducible refine Below.drew ?_) | (with_reducible exact Below.refl _ _) | (with_reducible refine below_call ?_ (by assumption) (by first | omega | (simp <;> omega))) | (with_reducible refine below_call ?_ (Drew.below (by assumption) _) (by first | omega | (simp <;> omega)))))
  rw [← hW1]
  clear hW1
  obtain ⟨W, hW⟩ : ∃ W, W = W1.alloc (.cells (tabA fun _ => (0, 0)) 63) := ⟨_, rfl⟩
  have hT2 : Tab W (w.heap.size + 1 + 1) (fun _ => (0, 0)) := by rw [hW, ← hz1]; exact Tab.new _ _ _ _
  have hW2 : Wri W (w.heap.size + 1 + 1) := by rw [hW, ← hz1]; exact Wri.new _ _ _
  have hB2 : Below W1.heap.size W1 W := by rw [hW]; exact (by (try show Below _ _ _); repeat (first | (with_reducible refine Below.setCell ?_ (by first | omega | (simp <;> omega)) _) | (with_reducible refine Below.alloc ?_ (by first | omega | (simp <;> omega)) _) | (with_reducible refine Below.drew ?_) | (with_reducible exact Below.refl _ _) | (with_reducible refine below_call ?_ (by assumption) (by first | omega | (simp <;> omega))) | (with_reducible refine below_call ?_ (Drew.below (by assumption) _) (by first | omega | (simp <;> omega)))))
  have hzW : W.heap.size = w.heap.size + 1 + 1 + 1 := by rw [hW]; simp; omega
  rw [← hW]
  clear hW
  replace hT1 := hT1.below hB2 (by omega)
  replace hW1' := hW1'.below hB2 (by omega)
  have hB01 := hB1.trans (hB2.mono (by omega))
  replace x0 := (hB01.cell (p := ⟨w.heap.size, 0, none⟩) (by show w.heap.size < _; omega)).trans x0
  replace x1 := (hB01.cell (p := ⟨w.heap.size, 1, none⟩) (by show w.heap.size < _; omega)).trans x1
  have hB : Below w.heap.size w W := hB0.trans (hB01.mono (by omega))
  clear hz
  have l0 := hT2 c i 0 (by omega) (by omega) (by omega)
  have l1 := hT2 c i 1 (by omega) (by omega) (by omega)
  have v0 := hW2 (c * 62 + i * 2)
  have v1 := hW2 (c * 62 + i * 2 + 1)
  simp only [Nat.add_zero] at l0
  go_still_tail 7, (by kernel_rfl)
  change wpList _ _ _ _ _ W.drew
  go_upto_region 3 with (fail)
  have hT3 : Tab ((W.setCell ⟨w.heap.size + 1 + 1, c * 62 + i * 2, none⟩ (.int .i64 1)).setCell ⟨w.heap.size + 1 + 1, c * 62 + i * 2 + 1, none⟩ (.int .i64 1)).drew (w.heap.size + 1 + 1) (rawF (setF (fun _ => none) ((c : Int), (i : Int)) (some (0, 0)))) := by
    have h := (hT2.put c i 0 (by omega) (by omega) (by omega) 1).put c i 1 (by omega) (by omega) (by omega) 1
    rw [Nat.add_zero] at h
    have e : setT (setT (fun _ => (0, 0)) ((c : Int), (i : Int)) 0 1) ((c : Int), (i : Int)) 1 1 = rawF (setF (fun _ => none) ((c : Int), (i : Int)) (some (0, 0))) := by
      funext s
      unfold setT rawF setF
      by_cases h : s = ((c : Int), (i : Int))
      · simp [h]
      · simp [h]
    rw [e] at h
    exact h
  have hg3 : W.grownBy ((W.setCell ⟨w.heap.size + 1 + 1, c * 62 + i * 2, none⟩ (.int .i64 1)).setCell ⟨w.heap.size + 1 + 1, c * 62 + i * 2 + 1, none⟩ (.int .i64 1)).drew (some (w.heap.size + 1 + 1)) :=
    grown_tr (grown_tr (grown_set W _ _ _) (grown_set _ _ _ _) (fun r e => Or.inr (by cases e; rfl))) (grown_drew _ none) (fun r e => by cases e)
  generalize ((W.setCell ⟨w.heap.size + 1 + 1, c * 62 + i * 2, none⟩ (.int .i64 1)).setCell ⟨w.heap.size + 1 + 1, c * 62 + i * 2 + 1, none⟩ (.int .i64 1)).drew = W3 at hT3 hg3 ⊢
  clear l0 l1 v0 v1 hT2 hW2 hB01 hB1 hB2 x0 x1
  rw [hT] at hT3
  have hT1' := hT1.kept hg3 (by omega)
  have hW3 := hW1'.kept hg3 (by omega) (by omega)
  have hld2 := load_tab (putT_tab hT1' hW3 T)
  have hBB : Below w.heap.size w (putT W3 (w.heap.size + 1) T) := (hB.grown hg3 (by omega) (fun k e => by cases e; omega)).grown (putT_grown W3 _ T) (by have := hg3.size; omega) (fun k e => by cases e; omega)
  go_wp2_with (first | refine wpList_load_tab rfl _ rfl _ rfl T hT3 ?_ | refine wpList_store_tab rfl _ _ rfl _ T rfl rfl _ hT1' hW3 ?_)
  refine bodyPost_ret (v := .agg (tabA T)) ?_ rfl ⟨rfl, hBB⟩
  simp [results, Try.results33, asAddr, Act.put, hld2]

end Go.Proofs.Ytlkecgjpmnganaa
