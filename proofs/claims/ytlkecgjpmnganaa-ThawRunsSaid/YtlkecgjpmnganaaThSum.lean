/- Contracts: span.check, span.Sum. -/
import Derived.Test.YtlkecgjpmnganaaSpan1
import Derived.Test.YtlkecgjpmnganaaMM
import Derived.RegionTactic
import Derived.Outline
import Derived.StillTailTactics
import Derived.BigRegion
import Derived.Deep.DrawnRows
set_option linter.unusedSimpArgs false
set_option linter.unusedVariables false
namespace Go.Proofs.Ytlkecgjpmnganaa
open Go.RowKit Go.Shelf
attribute [local go_sem ↓] Go.wp_at_zero Go.wp_at_succ

def sumR (xs : List R) : R := xs.foldl (fun s x => ⟨s.lo + x.lo, s.hi + x.hi⟩) ⟨0, 0⟩
theorem sumR_snoc (xs : List R) (k : Nat) (hk : k < xs.length) : sumR (xs.take (k + 1)) = ⟨(sumR (xs.take k)).lo + (xs[k]?.getD R.d).lo, (sumR (xs.take k)).hi + (xs[k]?.getD R.d).hi⟩ := by
  unfold sumR
  rw [List.take_succ_eq_append_getElem hk, List.foldl_append]
  simp [List.getElem?_eq_getElem hk]

theorem sumR_bound (xs : List R) (B C : Int) (k : Nat) (hk : k ≤ xs.length) (h : ∀ j, j < k → B ≤ (xs[j]?.getD R.d).lo ∧ (xs[j]?.getD R.d).lo ≤ C ∧ B ≤ (xs[j]?.getD R.d).hi ∧ (xs[j]?.getD R.d).hi ≤ C) :
    k * B ≤ (sumR (xs.take k)).lo ∧ (sumR (xs.take k)).lo ≤ k * C ∧ k * B ≤ (sumR (xs.take k)).hi ∧ (sumR (xs.take k)).hi ≤ k * C := by
  induction k with
  | zero => simp [sumR]
  | succ k ih =>
    have i := ih (by omega) (fun j hj => h j (by omega))
    have hx := h k (by omega)
    rw [sumR_snoc xs k (by omega)]
    have e1 : ((k + 1 : Nat) : Int) * B = k * B + B := by rw [Int.natCast_add, Int.add_mul]; simp
    have e2 : ((k + 1 : Nat) : Int) * C = k * C + C := by rw [Int.natCast_add, Int.add_mul]; simp
    rw [e1, e2]
    simp only
    omega

/-- pouring together -/
def checkS (xs : List R) : Int := if 100 < xs.length then 5 else if xs.all okR then 0 else 2

set_option maxHeartbeats 400000 in
theorem spanCheck_any (lo : Nat) (A : Option Addr) (n c : Nat) (xs : List R) (w : World) (hx : Ranges w lo A xs) (hn : Aside (xs.length = n)) (hl : n ≤ maxLen) :
    Calls Try.prog 96 #[.slice A n c] w fun e w' => e = .returned (.int .i64 (checkS xs)) ∧ Below w.heap.size w w' := by
  have hR := isRange_any lo A n c xs w hx hn hl
  unfold maxLen at hl
  have hcs : checkS xs = if 100 < n then 5 else if xs.all okR then 0 else 2 := by unfold checkS; rw [hn.out]
  rw [hcs]
  clear hcs hx hn
  generalize xs.all okR = r at hR ⊢
  by_cases h100 : 100 < n
  · have hz : (100 : Int) < (n : Int) := by omega
    rw [if_pos h100]
    go_enter Try.func96, Try.ntmps96
    go_wp2
    go_ret
    exact ⟨rfl, Below.refl _ _⟩
  · have hz : ¬ (100 : Int) < (n : Int) := by omega
    rw [if_neg h100]
    cases r with
    | true =>
      go_enter Try.func96, Try.ntmps96
      go_wp2_with fail
      refine (hR).mono ?_
      rintro e w1 ⟨rfl, hb1⟩
      have hz1 := hb1.size
      try simp only [World.size_alloc, World.size_setCell, World.size_drew] at hz1
      go_wp2
      go_ret
      exact ⟨rfl, (by (try show Below _ _ _); repeat (first | (with_reducible refine Below.setCell ?_ (by first | omega | (simp <;> omega)) _) | (with_reducible refine Below.alloc ?_ (by first | omega | (simp <;> omega)) _) | (with_reducible refine Below.drew ?_) | (with_reducible exact Below.refl _ _) | (with_reducible refine below_call ?_ (by assumption) (by first | omega | (simp <;> omega))) | (with_reducible refine below_call ?_ (Drew.below (by assumption) _) (by first | omega | (simp <;> omega)))))⟩
    | false =>
      go_enter Try.func96, Try.ntmps96
      go_wp2_with fail
      refine (hR).mono ?_
      rintro e w1 ⟨rfl, hb1⟩
      have hz1 := hb1.size
      try simp only [World.size_alloc, World.size_setCell, World.size_drew] at hz1
      go_wp2
      go_ret
      exact ⟨rfl, (by (try show Below _ _ _); repeat (first | (with_reducible refine Below.setCell ?_ (by first | omega | (simp <;> omega)) _) | (with_reducible refine Below.alloc ?_ (by first | omega | (simp <;> omega)) _) | (with_reducible refine Below.drew ?_) | (with_reducible exact Below.refl _ _) | (with_reducible refine below_call ?_ (by assumption) (by first | omega | (simp <;> omega))) | (with_reducible refine below_call ?_ (Drew.below (by assumption) _) (by first | omega | (simp <;> omega)))))⟩

def sumS (xs : List R) : R × Int := if checkS xs = 0 then madeS (sumR xs).lo (sumR xs).hi else (⟨0, 0⟩, checkS xs)

theorem check_ok {xs : List R} (h : checkS xs = 0) : xs.length ≤ 100 ∧ ∀ j, j < xs.length → okR (xs[j]?.getD R.d) = true := by
  unfold checkS at h
  by_cases h1 : 100 < xs.length
  · rw [if_pos h1] at h; simp at h
  · rw [if_neg h1] at h
    by_cases h2 : xs.all okR = true
    · refine ⟨by omega, fun j hj => ?_⟩
      rw [List.all_eq_true] at h2
      rw [List.getElem?_eq_getElem hj]
      exact h2 _ (List.getElem_mem hj)
    · rw [if_neg h2] at h; simp at h

/-- two boxes: the result's, zero, and one that is filled -/
structure MixJ (w : World) (ba : Nat) (a : R) (wr : World) : Prop where
  below : Below w.heap.size w wr
  size : ba < wr.heap.size
  far : w.heap.size < ba
  r0 : wr.cell? ⟨w.heap.size, 0, none⟩ = some (.int .i64 0)
  r1 : wr.cell? ⟨w.heap.size, 1, none⟩ = some (.int .i64 0)
  rf : wr.frozen? ⟨w.heap.size, 0, none⟩ = false
  rg : wr.frozen? ⟨w.heap.size, 1, none⟩ = false
  a0 : wr.cell? ⟨ba, 0, none⟩ = some (.int .i64 a.lo)
  a1 : wr.cell? ⟨ba, 1, none⟩ = some (.int .i64 a.hi)
  af : wr.frozen? ⟨ba, 0, none⟩ = false
  ag : wr.frozen? ⟨ba, 1, none⟩ = false

set_option maxRecDepth 100000 in
set_option maxHeartbeats 1000000 in
theorem Sum_any (lo : Nat) (A : Option Addr) (n c : Nat) (xs : List R) (w : World) (hx : Ranges w lo A xs) (hn : Aside (xs.length = n)) (hl : n ≤ maxLen) :
    Calls Try.prog 84 #[.slice A n c] w fun e w' => e = .returned (RE (sumS xs)) ∧ Below w.heap.size w w' := by
  have hC := fun (W : World) (h : Below w.heap.size w W) => spanCheck_any lo A n c xs W (hx.below h (Nat.le_refl _)) hn hl
  unfold maxLen at hl
  by_cases h0 : checkS xs = 0
  · have e : sumS xs = madeS (sumR xs).lo (sumR xs).hi := by unfold sumS; rw [if_pos h0]
    rw [e]
    obtain ⟨h100, hok⟩ := check_ok h0
    have hn100 : n ≤ 100 := by have := hn.out; omega
    rw [h0] at hC
    have HX := Lib.hid hx
    have HOK := Lib.hid hok
    clear hx hok e h0
    generalize hres : madeS (sumR xs).lo (sumR xs).hi = res
    have Hres := Lib.hid hres
    clear hres
    unfold RE
    go_enter Try.func84, Try.ntmps84
    go_wp2_with fail
    refine (hC _ ((Below.refl _ _).alloc (Nat.le_refl _) _)).mono ?_
    rintro e w1 ⟨rfl, hb1⟩
    have hz1 := hb1.size
    try simp only [World.size_alloc, World.size_setCell, World.size_drew] at hz1
    have hc1_0 := fun o => hb1.cell (p := ⟨w.heap.size, o, none⟩) (by show w.heap.size < _; first | omega | (simp only [World.size_alloc, World.size_setCell, World.size_drew]; omega))
    have hf1_0 := fun o => hb1.frozen (p := ⟨w.heap.size, o, none⟩) (by show w.heap.size < _; first | omega | (simp only [World.size_alloc, World.size_setCell, World.size_drew]; omega))
    have hz1_0 : w.heap.size < w1.heap.size := by omega
    have HB1 : Below w.heap.size w w1 := (by (try show Below _ _ _); repeat (first | (with_reducible refine Below.setCell ?_ (by first | omega | (simp <;> omega)) _) | (with_reducible refine Below.alloc ?_ (by first | omega | (simp <;> omega)) _) | (with_reducible refine Below.drew ?_) | (with_reducible exact Below.refl _ _) | (with_reducible refine below_call ?_ (by assumption) (by first | omega | (simp <;> omega))) | (with_reducible refine below_call ?_ (Drew.below (by assumption) _) (by first | omega | (simp <;> omega)))))
    go_wp2
    go_loopg [16] (n) (fun gg i wr => ∃ k : Nat, k ≤ n ∧ n - k ≤ gg ∧ i = .int .i64 k ∧ Aside (MixJ w w1.heap.size (sumR (xs.take k)) wr))
    case atStart =>
      exact ⟨0, Nat.zero_le _, Nat.le_refl _, rfl, { below := (by (try show Below _ _ _); repeat (first | (with_reducible refine Below.setCell ?_ (by first | omega | (simp <;> omega)) _) | (with_reducible refine Below.alloc ?_ (by first | omega | (simp <;> omega)) _) | (with_reducible refine Below.drew ?_) | (with_reducible exact Below.refl _ _) | (with_reducible refine below_call ?_ (by assumption) (by first | omega | (simp <;> omega))) | (with_reducible refine below_call ?_ (Drew.below (by assumption) _) (by first | omega | (simp <;> omega))))), size := (by simp), far := hz1_0, r0 := (by simp [go_sem, hc1_0, hz1_0]), r1 := (by simp [go_sem, hc1_0, hz1_0]), rf := (by simp [go_sem, hf1_0, hz1_0]), rg := (by simp [go_sem, hf1_0, hz1_0]), a0 := (by simp [go_sem, sumR]), a1 := (by simp [go_sem, sumR]), af := (by simp [go_sem]), ag := (by simp [go_sem]) }⟩
    case round =>
      obtain ⟨k, hk, hg, rfl, I⟩ := hrel
      have hsum := sumR_bound xs (-1000000000000000) 1000000000000000 k (by have := hn.out; omega) (fun j hj => by have := (okR_iff _).1 (HOK.out j (by have := hn.out; omega)); omega)
      by_cases hlt : k < n
      · obtain ⟨b, o, rfl, _, hlb, hc⟩ := HX.out (by have := hn.out; omega)
        have x0 := (I.out.below.cell (p := ⟨b, o + k * 2 + 0, none⟩) hlb).trans (hc k 0 (by have := hn.out; omega) (by omega))
        have x1 := (I.out.below.cell (p := ⟨b, o + k * 2 + 1, none⟩) hlb).trans (hc k 1 (by have := hn.out; omega) (by omega))
        have hsn := sumR_snoc xs k (by have := hn.out; omega)
        have okk := (okR_iff _).1 (HOK.out k (by have := hn.out; omega))
        clear hc
        generalize xs[k]?.getD R.d = x at x0 x1 hsn okk
        obtain ⟨p0, p1⟩ := x
        simp only [R.cell, Nat.add_zero, if_true, Nat.one_ne_zero, if_false] at x0 x1 okk
        have I' := I.out
        generalize hS : sumR (xs.take k) = S at hsum hsn I'
        obtain ⟨s0, s1⟩ := S
        have Hsn := Lib.hid hsn
        clear hsn hS I
        obtain ⟨hbe, hs, hfar, r0, r1, rf, rg, a0, a1, af, ag⟩ := I'
        simp only at hsum a0 a1
        have hs2 : w.heap.size < wr.heap.size := by omega
        have hne : w1.heap.size ≠ w.heap.size := by omega
        have hne2 : w.heap.size ≠ w1.heap.size := by omega
        have hltz : (k : Int) < (n : Int) := by omega
        have hk0 : (0 : Int) ≤ (k : Int) := by omega
        go_wp2_with fail
        go_region
        all_goals
          go_wp2
          go_roundg (n - (k + 1))
          case measure => omega
          case rel =>
            refine ⟨k + 1, by omega, by omega, by go_num, ?_⟩
            exact { below := (by (try show Below _ _ _); repeat (first | (with_reducible refine Below.setCell ?_ (by first | omega | (simp <;> omega)) _) | (with_reducible refine Below.alloc ?_ (by first | omega | (simp <;> omega)) _) | (with_reducible refine Below.drew ?_) | (with_reducible exact Below.refl _ _) | (with_reducible exact hbe) | (with_reducible refine below_call ?_ (by assumption) (by first | omega | (simp <;> omega))) | (with_reducible refine below_call ?_ (Drew.below (by assumption) _) (by first | omega | (simp <;> omega))))), size := (by simp; omega), far := hfar, r0 := (by simp [go_sem, cell_set, r0, hne, hs2]), r1 := (by simp [go_sem, cell_set, r1, hne, hs2]), rf := (by simp [go_sem, rf, hs2]), rg := (by simp [go_sem, rg, hs2]), a0 := (by simp [go_sem, cell_set, a0, hs, Hsn.out]), a1 := (by simp [go_sem, cell_set, a1, hs, Hsn.out]), af := (by simp [go_sem, af, hs]), ag := (by simp [go_sem, ag, hs]) }
      · have hltz : ¬ (k : Int) < (n : Int) := by omega
        have hke : k = n := by omega
        subst hke
        have htk : xs.take k = xs := List.take_of_length_le (by have := hn.out; omega)
        rw [htk] at I hsum
        have I' := I.out
        clear I htk
        have hr := Hres.out
        generalize sumR xs = S at I' hr
        obtain ⟨s0, s1⟩ := S
        obtain ⟨hbe, hs, hfar, r0, r1, rf, rg, a0, a1, af, ag⟩ := I'
        simp only at a0 a1 hr
        have hs2 : w.heap.size < wr.heap.size := by omega
        have hF := fun W => made_any s0 s1 W
        generalize madeS s0 s1 = rr at hF hr
        subst hr
        unfold RE at hF
        clear hsum
        go_wp2_with fail
        refine (hF _).mono ?_
        rintro e w2 ⟨rfl, hb2⟩
        have hz2 := hb2.size
        try simp only [World.size_alloc, World.size_setCell, World.size_drew] at hz2
        have k0 := (hb2.cell (p := ⟨w.heap.size, 0, none⟩) hs2).trans r0
        have k1 := (hb2.cell (p := ⟨w.heap.size, 1, none⟩) hs2).trans r1
        have k2 := (hb2.frozen (p := ⟨w.heap.size, 0, none⟩) hs2).trans rf
        have k3 := (hb2.frozen (p := ⟨w.heap.size, 1, none⟩) hs2).trans rg
        go_wp2
        refine bodyPost_ret (v := .tuple #[.agg #[.int .i64 rr.1.lo, .int .i64 rr.1.hi], .int .i64 rr.2]) (by simp [results, Try.results84, go_sem, cell_set, k0, k1]) rfl ⟨rfl, (by (try show Below _ _ _); repeat (first | (with_reducible refine Below.setCell ?_ (by first | omega | (simp <;> omega)) _) | (with_reducible refine Below.alloc ?_ (by first | omega | (simp <;> omega)) _) | (with_reducible refine Below.drew ?_) | (with_reducible exact Below.refl _ _) | (with_reducible exact hbe) | (with_reducible refine below_call ?_ (by assumption) (by first | omega | (simp <;> omega))) | (with_reducible refine below_call ?_ (Drew.below (by assumption) _) (by first | omega | (simp <;> omega)))))⟩
  · have e : sumS xs = (⟨0, 0⟩, checkS xs) := by unfold sumS; rw [if_neg h0]
    rw [e]
    generalize checkS xs = ck at hC h0 ⊢
    have hck : (ck != 0) = true := by rw [bne_iff_ne]; exact h0
    clear h0 e hx
    go_enter Try.func84, Try.ntmps84
    go_wp2_with fail
    refine (hC _ ((Below.refl _ _).alloc (Nat.le_refl _) _)).mono ?_
    rintro e w1 ⟨rfl, hb1⟩
    have hz1 := hb1.size
    try simp only [World.size_alloc, World.size_setCell, World.size_drew] at hz1
    have hc1_0 := fun o => hb1.cell (p := ⟨w.heap.size, o, none⟩) (by show w.heap.size < _; first | omega | (simp only [World.size_alloc, World.size_setCell, World.size_drew]; omega))
    have hf1_0 := fun o => hb1.frozen (p := ⟨w.heap.size, o, none⟩) (by show w.heap.size < _; first | omega | (simp only [World.size_alloc, World.size_setCell, World.size_drew]; omega))
    have hz1_0 : w.heap.size < w1.heap.size := by omega
    go_wp2
    refine bodyPost_ret (v := .tuple #[.agg #[.int .i64 0, .int .i64 0], .int .i64 ck]) (by simp [results, Try.results84, go_sem, cell_set, hc1_0]) rfl ⟨rfl, (by (try show Below _ _ _); repeat (first | (with_reducible refine Below.setCell ?_ (by first | omega | (simp <;> omega)) _) | (with_reducible refine Below.alloc ?_ (by first | omega | (simp <;> omega)) _) | (with_reducible refine Below.drew ?_) | (with_reducible exact Below.refl _ _) | (with_reducible refine below_call ?_ (by assumption) (by first | omega | (simp <;> omega))) | (with_reducible refine below_call ?_ (Drew.below (by assumption) _) (by first | omega | (simp <;> omega)))))⟩


end Go.Proofs.Ytlkecgjpmnganaa
