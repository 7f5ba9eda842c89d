/- Contracts of package thaw: counts and fields. -/
import Derived.Test.YtlkecgjpmnganaaThMath
import Derived.Test.YtlkecgjpmnganaaMM
import Derived.Deep.MidRow
import Derived.Outline
import Derived.Deep.QuietTactic
import Derived.BigQuiet
import Derived.BigRegion
set_option linter.unusedSimpArgs false
set_option linter.unusedVariables false
namespace Go.Proofs.Ytlkecgjpmnganaa
open Go.RowKit Go.Shelf

def cV : Option (Int × Int) → Value
  | none => .agg #[.int .i64 0, .int .i64 0, .bool false]
  | some p => .agg #[.int .i64 p.1, .int .i64 p.2, .bool true]
def sV (s : St) : Value := .agg #[.int .i64 s.1, .int .i64 s.2]

set_option maxHeartbeats 400000 in
theorem with_any (o o' : Option (Int × Int)) (w : World) :
    Calls Try.prog 90 #[cV o, cV o'] w fun e w' => e = .returned (cV (withC o o')) ∧ Below w.heap.size w w' := by
  cases o with
  | none =>
    obtain ⟨x, y, z, hv⟩ : ∃ x y z, cV o' = .agg #[.int .i64 x, .int .i64 y, .bool z] := by cases o' <;> exact ⟨_, _, _, rfl⟩
    show Calls _ _ _ _ fun e w' => e = .returned (cV o') ∧ _
    rw [hv]
    unfold cV
    go_enter Try.func90, Try.ntmps90
    go_wp2
    refine bodyPost_ret (v := .agg #[.int .i64 x, .int .i64 y, .bool z]) (by simp [results, Try.results90, go_sem]) rfl ⟨rfl, (by (try show Below _ _ _); repeat (first | (with_reducible refine Below.setCell ?_ (by first | omega | (simp <;> omega)) _) | (with_reducible refine Below.alloc ?_ (by first | omega | (simp <;> omega)) _) | (with_reducible refine Below.drew ?_) | (with_reducible exact Below.refl _ _) | (with_reducible refine below_call ?_ (by assumption) (by first | omega | (simp <;> omega))) | (with_reducible refine below_call ?_ (Drew.below (by assumption) _) (by first | omega | (simp <;> omega)))))⟩
  | some p =>
    cases o' with
    | none =>
      unfold cV withC
      go_enter Try.func90, Try.ntmps90
      go_wp2
      refine bodyPost_ret (v := .agg #[.int .i64 p.1, .int .i64 p.2, .bool true]) (by simp [results, Try.results90, go_sem]) rfl ⟨rfl, (by (try show Below _ _ _); repeat (first | (with_reducible refine Below.setCell ?_ (by first | omega | (simp <;> omega)) _) | (with_reducible refine Below.alloc ?_ (by first | omega | (simp <;> omega)) _) | (with_reducible refine Below.drew ?_) | (with_reducible exact Below.refl _ _) | (with_reducible refine below_call ?_ (by assumption) (by first | omega | (simp <;> omega))) | (with_reducible refine below_call ?_ (Drew.below (by assumption) _) (by first | omega | (simp <;> omega)))))⟩
    | some q =>
      obtain ⟨a, b⟩ := p
      obtain ⟨c, d⟩ := q
      unfold cV withC
      dsimp only
      go_enter Try.func90, Try.ntmps90
      go_wp2
      refine bodyPost_ret (v := .agg #[.int .i64 (min a c), .int .i64 (max b d), .bool true]) (by simp [results, Try.results90, go_sem]) rfl ⟨rfl, (by (try show Below _ _ _); repeat (first | (with_reducible refine Below.setCell ?_ (by first | omega | (simp <;> omega)) _) | (with_reducible refine Below.alloc ?_ (by first | omega | (simp <;> omega)) _) | (with_reducible refine Below.drew ?_) | (with_reducible exact Below.refl _ _) | (with_reducible refine below_call ?_ (by assumption) (by first | omega | (simp <;> omega))) | (with_reducible refine below_call ?_ (Drew.below (by assumption) _) (by first | omega | (simp <;> omega)))))⟩

set_option maxHeartbeats 400000 in
theorem at_any (b : Nat) (c i : Nat) (hc : c ≤ 60) (hi : i ≤ 30) (w : World) :
    Calls Try.prog 81 #[.pointer (some ⟨b, 0, none⟩), .agg #[.int .i64 c, .int .i64 i]] w fun e w' => e = .returned (.pointer (some ⟨b, c * 93 + i * 3, none⟩)) ∧ Below w.heap.size w w' := by
  have h1 : (0 : Int) ≤ c := by omega
  have h2 : (c : Int) < 61 := by omega
  have h3 : (0 : Int) ≤ i := by omega
  have h4 : (i : Int) < 31 := by omega
  go_enter Try.func81, Try.ntmps81
  go_wp2_with fail
  go_quiet (fail)
  go_wp2
  go_ret
  exact ⟨rfl, below_drewN' (by (try show Below _ _ _); repeat (first | (with_reducible refine Below.setCell ?_ (by first | omega | (simp <;> omega)) _) | (with_reducible refine Below.alloc ?_ (by first | omega | (simp <;> omega)) _) | (with_reducible refine Below.drew ?_) | (with_reducible exact Below.refl _ _) | (with_reducible refine below_call ?_ (by assumption) (by first | omega | (simp <;> omega))) | (with_reducible refine below_call ?_ (Drew.below (by assumption) _) (by first | omega | (simp <;> omega))))) _⟩

/-! ### Fields in memory -/
def fC (o : Option (Int × Int)) (k : Nat) : Value :=
  match o, k with
  | none, 0 => .int .i64 0
  | none, 1 => .int .i64 0
  | none, _ => .bool false
  | some p, 0 => .int .i64 p.1
  | some p, 1 => .int .i64 p.2
  | some _, _ => .bool true
def Fld (w : World) (b : Nat) (F : Fl) : Prop := ∀ c i k : Nat, c < 61 → i < 31 → k < 3 → w.cell? ⟨b, c * 93 + i * 3 + k, none⟩ = some (fC (F ((c : Int), (i : Int))) k)
def Wri (w : World) (b : Nat) : Prop := ∀ o : Nat, w.frozen? ⟨b, o, none⟩ = false

theorem Fld.below {w w' : World} {b B : Nat} {F : Fl} (h : Fld w b F) (hb : Below B w w') (hB : b < B) : Fld w' b F := fun c i k hc hi hk => (hb.cell (p := ⟨b, _, none⟩) hB).trans (h c i k hc hi hk)
theorem Wri.below {w w' : World} {b B : Nat} (h : Wri w b) (hb : Below B w w') (hB : b < B) : Wri w' b := fun o => (hb.frozen (p := ⟨b, o, none⟩) hB).trans (h o)

theorem flat_at {α : Type} (l : List α) (n j k : Nat) (hj : j < n) (hk : k < l.length) : (List.replicate n l).flatten[j * l.length + k]? = l[k]? := by
  induction n generalizing j with
  | zero => omega
  | succ n ih =>
    rw [List.replicate_succ, List.flatten_cons]
    cases j with
    | zero => rw [Nat.zero_mul, Nat.zero_add, List.getElem?_append_left hk]
    | succ j =>
      rw [List.getElem?_append_right (by rw [Nat.succ_mul]; omega)]
      rw [show (j + 1) * l.length + k - l.length = j * l.length + k by rw [Nat.succ_mul]; omega]
      exact ih j (by omega)

theorem zero_cells : Try.zeroCells151.toList = (List.replicate 1891 [Value.int .i64 0, .int .i64 0, .bool false]).flatten := by kernel_rfl

theorem Fld.zero (w : World) (t : TypeId) (fr : Nat × Nat) : Fld (w.alloc (.cells Try.zeroCells151 t fr)) w.heap.size (fun _ => none) := by
  intro c i k hc hi hk
  rw [cell_of_row _ _ _ _ _ _ (heap_alloc_new w _)]
  rw [← Array.getElem?_toList, zero_cells]
  have := flat_at [Value.int .i64 0, .int .i64 0, .bool false] 1891 (c * 31 + i) k (by omega) (by simpa using hk)
  simp only [List.length_cons, List.length_nil, Nat.zero_add, Nat.reduceAdd] at this
  rw [show c * 93 + i * 3 + k = (c * 31 + i) * 3 + k by omega, this]
  have : k = 0 ∨ k = 1 ∨ k = 2 := by omega
  rcases this with rfl | rfl | rfl <;> rfl

theorem Wri.new (w : World) (cs : Array Value) (t : TypeId) : Wri (w.alloc (.cells cs t)) w.heap.size := fun o => frozen_of_row _ _ _ _ _ (heap_alloc_new w _)

/-- one count put down -/
def setF (F : Fl) (s : St) (d : Option (Int × Int)) : Fl := fun t => if t = s then d else F t

theorem addF_eq (F : Fl) (s : St) (d : Option (Int × Int)) : addF F s d = setF F s (withC (F s) d) := by
  funext t
  unfold addF setF
  by_cases e : t = s
  · subst e; rfl
  · simp only [if_neg e]

/-- a world with one count put down -/
def putC (w : World) (b : Nat) (c i : Nat) (d : Option (Int × Int)) : World :=
  ((w.setCell ⟨b, c * 93 + i * 3, none⟩ (fC d 0)).setCell ⟨b, c * 93 + i * 3 + 1, none⟩ (fC d 1)).setCell ⟨b, c * 93 + i * 3 + 2, none⟩ (fC d 2)

theorem cso (w : World) (b o o' : Nat) (v : Value) (h : o ≠ o') : (w.setCell ⟨b, o, none⟩ v).cell? ⟨b, o', none⟩ = w.cell? ⟨b, o', none⟩ := World.cell?_setCell_other _ _ _ _ (by intro e; exact h (congrArg Addr.off e))

theorem Fld.put {w : World} {b : Nat} {F : Fl} (h : Fld w b F) (c i : Nat) (hc : c < 61) (hi : i < 31) (d : Option (Int × Int)) : Fld (putC w b c i d) b (setF F ((c : Int), (i : Int)) d) := by
  intro c' i' k hc' hi' hk
  unfold putC setF
  by_cases e : ((c' : Int), (i' : Int)) = ((c : Int), (i : Int))
  · rw [if_pos e]
    have e1 : c' = c := by have := congrArg Prod.fst e; simp only at this; omega
    have e2 : i' = i := by have := congrArg Prod.snd e; simp only at this; omega
    subst e1; subst e2
    have h0 := h c' i' 0 hc hi (by omega)
    have h1 := h c' i' 1 hc hi (by omega)
    have h2 := h c' i' 2 hc hi (by omega)
    have : k = 0 ∨ k = 1 ∨ k = 2 := by omega
    rcases this with rfl | rfl | rfl
    · rw [cso _ _ _ _ _ (by omega), cso _ _ _ _ _ (by omega)]
      exact World.cell?_setCell_same' _ _ _ (by rw [show c' * 93 + i' * 3 = c' * 93 + i' * 3 + 0 by rfl, h0]; rfl)
    · rw [cso _ _ _ _ _ (by omega)]
      exact World.cell?_setCell_same' _ _ _ (by rw [cso _ _ _ _ _ (by omega), h1]; rfl)
    · exact World.cell?_setCell_same' _ _ _ (by rw [cso _ _ _ _ _ (by omega), cso _ _ _ _ _ (by omega), h2]; rfl)
  · rw [if_neg e]
    have hne : c' * 31 + i' ≠ c * 31 + i := by
      intro e'
      exact e (by rw [show c' = c by omega, show i' = i by omega])
    rw [cso _ _ _ _ _ (by omega), cso _ _ _ _ _ (by omega), cso _ _ _ _ _ (by omega)]
    exact h c' i' k hc' hi' hk

theorem putC_frozen (w : World) (b c i : Nat) (d : Option (Int × Int)) (a : Addr) : (putC w b c i d).frozen? a = w.frozen? a := by
  unfold putC; simp [World.frozen?_setCell]
theorem putC_size (w : World) (b c i : Nat) (d : Option (Int × Int)) : (putC w b c i d).heap.size = w.heap.size := by
  unfold putC; simp


end Go.Proofs.Ytlkecgjpmnganaa
