/- Contracts: slices.SortStableFunc at ints that are sorted already, fewer than 20. -/
import Derived.Test.YtfohdafijfjefaaLib
import Derived.Test.YtfohdafijfjefaaMM
import Derived.Deep.RegionHeld3
import Derived.Deep.DrawnRows
import Derived.Deep.LoopGhost
import Derived.BigRegion
import Derived.OwnWalk
set_option linter.unusedSimpArgs false
set_option linter.unusedVariables false
namespace Go.Proofs.Ytfohdafijfjefaa
open Go.RowKit Go.Shelf
attribute [local go_sem ↓] Go.wp_at_zero Go.wp_at_succ

/-- the comparison of neighbours, handed on, says that they stand in order -/
def CmpUp (P : Program) (g : FuncId) (cap : Array Value) (xs : List Int) (w : World) : Prop :=
  ∀ (j : Nat) (W : World), j + 1 < xs.length → Below w.heap.size w W → Calls P g (#[.int .i64 (xs[j + 1]?.getD 0), .int .i64 (xs[j]?.getD 0)] ++ cap) W fun e W' => ∃ v : Int, 0 ≤ v ∧ e = .returned (.int .i64 v) ∧ Below W.heap.size W W'

def Done (w : World) (e : Ending) (w' : World) : Prop := (∃ u, e = .returned u) ∧ Below w.heap.size w w'

set_option maxRecDepth 100000 in
set_option maxHeartbeats 2000000 in
theorem insertion_up (g : FuncId) (cap : Array Value) (b o n c : Nat) (xs : List Int) (w : World) (eg : Enters Try.prog g) (hc : Aside (∀ j, j < n → w.cell? ⟨b, o + j, none⟩ = some (.int .i64 (xs[j]?.getD 0)))) (hb : b < w.heap.size) (hn : Aside (xs.length = n)) (hl : n ≤ 1000) (hp : CmpUp Try.prog g cap xs w) :
    Calls Try.prog 154 #[.slice (some ⟨b, o, none⟩) n c, .int .i64 0, .int .i64 n, .func (.func g) #[] cap] w (Done w) := by
  unfold Enters at eg
  have Hp := Lib.hid hp
  clear hp
  go_enter Try.func154, Try.ntmps154
  go_wp2
  go_loopg [8] (n) (fun gg i wr => ∃ k : Nat, 1 ≤ k ∧ n - k ≤ gg ∧ k ≤ n + 1 ∧ i = .int .i64 k ∧ Aside (Below w.heap.size w wr))
  case atStart => exact ⟨1, Nat.le_refl _, by omega, by omega, rfl, Below.refl _ _⟩
  case round =>
    obtain ⟨k, hk1, hg, hkn, rfl, hB⟩ := hrel
    by_cases hlt : k < n
    · obtain ⟨j, rfl⟩ : ∃ j, k = j + 1 := ⟨k - 1, by omega⟩
      have c0 := (hB.out.cell (p := ⟨b, o + j, none⟩) hb).trans (hc.out j (by omega))
      have c1 := (hB.out.cell (p := ⟨b, o + (j + 1), none⟩) hb).trans (hc.out (j + 1) hlt)
      have hcall := Hp.out j
      generalize xs[j]?.getD 0 = y at *
      generalize xs[j + 1]?.getD 0 = x at *
      have hcall' : ∀ W : World, Below w.heap.size w W → Calls Try.prog g (#[.int .i64 x, .int .i64 y] ++ cap) W fun e W' => ∃ v : Int, 0 ≤ v ∧ e = .returned (.int .i64 v) ∧ Below W.heap.size W W' := fun W hW => hcall W (by have := hn.out; omega) hW
      have Hcall := Lib.hid hcall'
      clear hcall hcall'
      have hltz : ((j : Int) + 1) < (n : Int) := by omega
      have hj0 : (0 : Int) ≤ (j : Int) := by omega
      have hj1 : (j : Int) < (n : Int) := by omega
      have hj2 : (0 : Int) ≤ (j : Int) + 1 := by omega
      have hj3 : (0 : Int) < (j : Int) + 1 := by omega
      have hjn : j < n := by omega
      have hwj : IntKind.i64.wrap (j : Int) = (j : Int) := by rw [IntKind.wrap_i64]; omega
      have hwj2 : ((j : Int) + 1).toNat = j + 1 := by omega
      have hbr := hB.out.size
      go_wp2
      obtain ⟨wo, hwo⟩ : ∃ wo : World, wo = wr := ⟨_, rfl⟩
      subst hwo
      go_loopg [9] (0) (fun gg s9 wr => s9 = .int .i64 ((j : Int) + 1) ∧ wo = wr)
      case atStart => exact ⟨by go_num, rfl⟩
      case round =>
        obtain ⟨rfl, hw⟩ := hrel
        subst hw
        go_wp2_with fail
        go_region_held3 (fun w' => w'.cell? ⟨b, o + j, none⟩ = some (.int .i64 y) ∧ w'.cell? ⟨b, o + (j + 1), none⟩ = some (.int .i64 x))
          (first | ((try refine ⟨?_, ?_⟩) <;> (simp [go_sem, h3a, c0, c1]; done)) | go_keep)
          ((go_at_fn g; refine (Hcall.out _ (by (try show Below _ _ _); repeat (first | (with_reducible refine Below.setCell ?_ (by first | omega | (simp <;> omega)) _) | (with_reducible refine Below.alloc ?_ (by first | omega | (simp <;> omega)) _) | (with_reducible refine Below.drew ?_) | (with_reducible exact Below.refl _ _) | (with_reducible exact hB.out) | (with_reducible refine below_call ?_ (by assumption) (by first | omega | (simp <;> omega))) | (with_reducible refine below_call ?_ (Drew.below (by assumption) _) (by first | omega | (simp <;> omega)))))).mono ?_; rintro e w3 ⟨v, hv, rfl, hb3⟩; have h3a := fun o => hb3.cell (p := ⟨b, o, none⟩) (by show b < _; first | omega | (simp; omega))))
        all_goals
          have hv0 : ¬ v < 0 := by omega
          go_wp2
          go_roundg (n - (j + 1 + 1))
          case measure => omega
          case rel => exact ⟨j + 1 + 1, by omega, by omega, by omega, by go_num, (by (try show Below _ _ _); repeat (first | (with_reducible refine Below.setCell ?_ (by first | omega | (simp <;> omega)) _) | (with_reducible refine Below.alloc ?_ (by first | omega | (simp <;> omega)) _) | (with_reducible refine Below.drew ?_) | (with_reducible exact Below.refl _ _) | (with_reducible exact hB.out) | (with_reducible refine below_call ?_ (by assumption) (by first | omega | (simp <;> omega))) | (with_reducible refine below_call ?_ (Drew.below (by assumption) _) (by first | omega | (simp <;> omega)))))⟩
    · have hltz : ¬ (k : Int) < (n : Int) := by omega
      go_wp2
      go_end0
      exact ⟨⟨_, rfl⟩, hB.out⟩

set_option maxHeartbeats 1000000 in
theorem stable_up (g : FuncId) (cap : Array Value) (b o n c : Nat) (xs : List Int) (w : World) (eg : Enters Try.prog g) (hc : Aside (∀ j, j < n → w.cell? ⟨b, o + j, none⟩ = some (.int .i64 (xs[j]?.getD 0)))) (hb : b < w.heap.size) (hn : Aside (xs.length = n)) (hl : n < 20) (hp : CmpUp Try.prog g cap xs w) :
    Calls Try.prog 140 #[.slice (some ⟨b, o, none⟩) n c, .int .i64 n, .func (.func g) #[] cap] w (Done w) := by
  have hI := insertion_up g cap b o n c xs w eg hc hb hn (by omega) hp
  clear hc hp eg hn
  have h1 : (n : Int) < 20 := by omega
  go_enter Try.func140, Try.ntmps140
  go_wp2
  go_loopg [7, 8] (0) (fun gg s7 s8 wr => s7 = .int .i64 0 ∧ s8 = .int .i64 20 ∧ w = wr)
  case atStart => exact ⟨rfl, rfl, rfl⟩
  case round =>
    obtain ⟨rfl, rfl, hw⟩ := hrel
    subst hw
    have h2 : ¬ (20 : Int) ≤ (n : Int) := by omega
    go_wp2_with fail
    refine hI.mono ?_
    rintro e w1 ⟨⟨u, rfl⟩, hb1⟩
    go_wp2
    obtain ⟨wo, hwo⟩ : ∃ wo : World, wo = w1 := ⟨_, rfl⟩
    subst hwo
    go_loopg [6] (0) (fun gg s6 wr => s6 = .int .i64 20 ∧ wo = wr)
    case atStart => exact ⟨rfl, rfl⟩
    case round =>
      obtain ⟨rfl, hw⟩ := hrel
      subst hw
      have h3 : ¬ (20 : Int) < (n : Int) := by omega
      go_wp2
      go_end0
      exact ⟨⟨_, rfl⟩, hb1⟩

set_option maxHeartbeats 1000000 in
theorem sortStable_up (g : FuncId) (cap : Array Value) (b o n c : Nat) (xs : List Int) (w : World) (eg : Enters Try.prog g) (hc : Aside (∀ j, j < n → w.cell? ⟨b, o + j, none⟩ = some (.int .i64 (xs[j]?.getD 0)))) (hb : b < w.heap.size) (hn : Aside (xs.length = n)) (hl : n < 20) (hp : CmpUp Try.prog g cap xs w) :
    Calls Try.prog 103 #[.slice (some ⟨b, o, none⟩) n c, .func (.func g) #[] cap] w (Done w) := by
  have hS := stable_up g cap b o n c xs w eg hc hb hn hl hp
  clear hc hp eg hn
  go_enter Try.func103, Try.ntmps103
  go_wp2_with fail
  refine hS.mono ?_
  rintro e w1 ⟨⟨u, rfl⟩, hb1⟩
  go_wp2
  go_end0
  exact ⟨⟨_, rfl⟩, hb1⟩

end Go.Proofs.Ytfohdafijfjefaa
