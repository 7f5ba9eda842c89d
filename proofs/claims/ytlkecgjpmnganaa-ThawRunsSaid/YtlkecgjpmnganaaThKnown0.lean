/- spilelaw04.known: the calls of its text, and what they return. -/
import Derived.Test.YtlkecgjpmnganaaThExtreme
import Derived.Test.YtlkecgjpmnganaaThFirst
import Derived.Test.YtlkecgjpmnganaaThCourse
import Derived.Test.YtlkecgjpmnganaaThGives
import Derived.Outline
import Derived.StillTailTactics
set_option linter.unusedSimpArgs false
set_option linter.unusedVariables false
namespace Go.Proofs.Ytlkecgjpmnganaa
open Go.RowKit Go.Shelf

/-- a set given by a list -/
def ofL (L : List (St × Int)) : Cs := fun s n => (s, n) ∈ L
def stepL (r : TR) (may : Bool → Bool) (s : St) (n : Int) (k : Int) : List (St × Int) := if may (stepT r s k).2 = true then [((stepT r s k).1, n + (if (stepT r s k).2 then 1 else 0))] else []
def hourL (r : TR) (lo hi : Int) (may : Bool → Bool) (L : List (St × Int)) : List (St × Int) := L.flatMap fun x => (kindsT r lo hi).flatMap (stepL r may x.1 x.2)
theorem hourC_ofL (r : TR) (lo hi : Int) (may : Bool → Bool) (L : List (St × Int)) : hourC r lo hi may (ofL L) = ofL (hourL r lo hi may L) := by
  funext s' n'
  apply propext
  unfold hourC contr ofL hourL stepL
  simp only [List.mem_flatMap]
  constructor
  · rintro ⟨s, k, hk, hm, rfl, n, hn, rfl⟩
    exact ⟨(s, n), hn, k, hk, by rw [if_pos hm]; exact List.mem_singleton.2 rfl⟩
  · rintro ⟨⟨s, n⟩, hn, k, hk, h⟩
    by_cases hm : may (stepT r s k).2 = true
    · rw [if_pos hm] at h
      obtain ⟨rfl, rfl⟩ := Prod.mk.inj (List.mem_singleton.1 h)
      exact ⟨s, k, hk, hm, rfl, n, hn, rfl⟩
    · rw [if_neg hm] at h
      cases h
theorem oneC_ofL (s : St) : oneC s = ofL [(s, 0)] := by
  funext t n
  apply propext
  simp [oneC, ofL]
theorem any_ofL (L : List (St × Int)) : (∃ n, anyC (ofL L) n) ↔ L.isEmpty = false := by
  cases L with
  | nil => simp [anyC, ofL]
  | cons x l => simp only [List.isEmpty_cons, iff_true]; exact ⟨x.2, x.1, List.mem_cons_self⟩
def thruL (r : TR) : List (Int × Int) → List (St × Int) → List (St × Int)
  | [], L => L
  | t :: w, L => thruL r w (hourL r t.1 t.2 (fun _ => true) L)
theorem thruC_ofL (r : TR) : ∀ (w : List (Int × Int)) (L : List (St × Int)), thruC r w (ofL L) = ofL (thruL r w L)
  | [], _ => rfl
  | t :: w, L => by unfold thruC thruL; rw [hourC_ofL, thruC_ofL r w]
def firstL (r : TR) : List (Int × Int) → List (St × Int) → Int → Int → Int × Int
  | [], _, _, p => (p, -1)
  | t :: ts, L, i, p =>
    let p' := if p < 0 ∧ (hourL r t.1 t.2 (fun b => b) L).isEmpty = false then i else p
    if (hourL r t.1 t.2 (fun b => !b) L).isEmpty = false then firstL r ts (hourL r t.1 t.2 (fun b => !b) L) (i + 1) p' else (p', i)
theorem nextP_ofL (r : TR) (t : Int × Int) (L : List (St × Int)) (i p : Int) : nextP r t (ofL L) i p = if p < 0 ∧ (hourL r t.1 t.2 (fun b => b) L).isEmpty = false then i else p := by
  have h := any_ofL (hourL r t.1 t.2 (fun b => b) L)
  rw [← hourC_ofL] at h
  by_cases h0 : p < 0
  · by_cases h1 : (hourL r t.1 t.2 (fun b => b) L).isEmpty = false
    · rw [nextP_yes h0 (h.2 h1), if_pos ⟨h0, h1⟩]
    · rw [nextP_no (fun k => h1 (h.1 k)), if_neg (fun k => h1 k.2)]
  · rw [nextP_old h0, if_neg (fun k => h0 k.1)]
theorem firstS_ofL (r : TR) : ∀ (w : List (Int × Int)) (L : List (St × Int)) (i p : Int), firstS r w (ofL L) i p = firstL r w L i p
  | [], _, _, _ => by unfold firstS firstL; rfl
  | t :: w, L, i, p => by
    have h := any_ofL (hourL r t.1 t.2 (fun b => !b) L)
    rw [← hourC_ofL] at h
    unfold firstL
    by_cases h1 : (hourL r t.1 t.2 (fun b => !b) L).isEmpty = false
    · rw [firstS_some r t w _ i p (h.2 h1), if_pos h1, nextP_ofL, hourC_ofL, firstS_ofL r w]
    · rw [firstS_none r t w _ i p (fun k => h1 (h.1 k)), if_neg h1, nextP_ofL]

def R0 : TR := ⟨-10, 20, 2, 5, 1, 3, 2, 500, 800, 1⟩
def M0 : List R := [⟨-30, -5⟩, ⟨50, 50⟩, ⟨50, 50⟩, ⟨50, 50⟩, ⟨50, 50⟩]
def C0 : List Int := [1, 1, 1, 3, 3, 3, 3]

theorem k0_err : errT R0 0 0 M0 = 0 := by decide
theorem k0_first : firstS R0 (M0.map pr) (oneC (0, 0)) 0 (-1) = (2, -1) := by
  rw [oneC_ofL, firstS_ofL]
  decide
theorem k0_runs {x y : Int} (h : Rep1 (some (x, y)) (anyC (thruC R0 (M0.map pr) (oneC (0, 0))))) : x = 0 ∧ y = 2 := by
  rw [oneC_ofL, thruC_ofL] at h
  have h2 : ∀ p ∈ thruL R0 (M0.map pr) [(((0 : Int), (0 : Int)), 0)], 0 ≤ p.2 ∧ p.2 ≤ 2 := by decide
  have h3 : ∃ s, (s, (0 : Int)) ∈ thruL R0 (M0.map pr) [(((0 : Int), (0 : Int)), 0)] := ⟨(0, 0), by decide⟩
  have h4 : ∃ s, (s, (2 : Int)) ∈ thruL R0 (M0.map pr) [(((0 : Int), (0 : Int)), 0)] := ⟨(0, 0), by decide⟩
  have : some (x, y) = some (0, 2) := h.uniq ⟨h3, h4, fun n ⟨s, hs⟩ => h2 _ hs⟩
  simpa using this

theorem infoRules : (Try.prog.info? 25).map (fun i => (i.zero, i.size, i.bytes)) = some (some (.agg #[.int .i64 0, .int .i64 0, .int .i64 0, .int .i64 0, .int .i64 0, .int .i64 0, .int .i64 0, .int .i64 0, .int .i64 0, .int .i64 0]), 10, 80) := by kernel_rfl

set_option maxHeartbeats 1000000 in
theorem rules_any (w : World) :
    Calls Try.prog 51 #[] w fun e w' => e = .returned (rV R0) ∧ Below w.heap.size w w' := by
  unfold rV R0
  go_enter Try.func51, Try.ntmps51
  go_wp2
  refine bodyPost_ret (v := .agg #[.int .i64 (-10), .int .i64 20, .int .i64 2, .int .i64 5, .int .i64 1, .int .i64 3, .int .i64 2, .int .i64 500, .int .i64 800, .int .i64 1]) (by simp [results, Try.results51, go_sem]) rfl ⟨rfl, (by (try show Below _ _ _); repeat (first | (with_reducible refine Below.setCell ?_ (by first | omega | (simp <;> omega)) _) | (with_reducible refine Below.alloc ?_ (by first | omega | (simp <;> omega)) _) | (with_reducible refine Below.drew ?_) | (with_reducible exact Below.refl _ _) | (with_reducible refine below_call ?_ (by assumption) (by first | omega | (simp <;> omega))) | (with_reducible refine below_call ?_ (Drew.below (by assumption) _) (by first | omega | (simp <;> omega)))))⟩

theorem rows_M (w : World) (t : TypeId) : Ranges (w.alloc (.cells #[.int .i64 (-30), .int .i64 (-5), .int .i64 50, .int .i64 50, .int .i64 50, .int .i64 50, .int .i64 50, .int .i64 50, .int .i64 50, .int .i64 50] t)) w.heap.size (some ⟨w.heap.size, 0, none⟩) M0 := by
  intro _
  refine ⟨w.heap.size, 0, rfl, Nat.le_refl _, by simp, fun j i hj hi => ?_⟩
  have hj' : j = 0 ∨ j = 1 ∨ j = 2 ∨ j = 3 ∨ j = 4 := by simp [M0] at hj; omega
  have hi' : i = 0 ∨ i = 1 := by omega
  rcases hj' with rfl | rfl | rfl | rfl | rfl <;> rcases hi' with rfl | rfl <;> simp [go_sem, R.cell, M0]

set_option maxHeartbeats 1000000 in
theorem morning_any (w : World) :
    Calls Try.prog 52 #[] w fun e w' => (∃ A, e = .returned (.slice A 5 5) ∧ Ranges w' w.heap.size A M0) ∧ Below w.heap.size w w' := by
  have hM := rows_M w
  go_enter Try.func52, Try.ntmps52
  go_wp2
  go_ret
  exact ⟨⟨_, rfl, hM _⟩, (by (try show Below _ _ _); repeat (first | (with_reducible refine Below.setCell ?_ (by first | omega | (simp <;> omega)) _) | (with_reducible refine Below.alloc ?_ (by first | omega | (simp <;> omega)) _) | (with_reducible refine Below.drew ?_) | (with_reducible exact Below.refl _ _) | (with_reducible refine below_call ?_ (by assumption) (by first | omega | (simp <;> omega))) | (with_reducible refine below_call ?_ (Drew.below (by assumption) _) (by first | omega | (simp <;> omega)))))⟩

end Go.Proofs.Ytlkecgjpmnganaa
