/- The library's iterator over a slice from its end on. -/
import Derived.Test.YtlkecgjpmnganaaThIter
import Derived.Test.YtlkecgjpmnganaaThRangeB
import Derived.Test.YtlkecgjpmnganaaRange
set_option linter.unusedSimpArgs false
set_option linter.unusedVariables false
namespace Go.Proofs.Ytlkecgjpmnganaa
open Go.RowKit Go.Shelf
attribute [local go_sem] Oper.semAt_some

def encB (x : Nat × R) : Array Value := #[.int .i64 (x.1 : Int), R.val x.2]
/-- the first k from the end on -/
def backL (ts : List R) (k : Nat) : List (Nat × R) := (List.range k).map fun j => (ts.length - 1 - j, ts[ts.length - 1 - j]?.getD R.d)
theorem backL_succ (ts : List R) (k : Nat) : backL ts (k + 1) = backL ts k ++ [(ts.length - 1 - k, ts[ts.length - 1 - k]?.getD R.d)] := by simp [backL, List.range_succ]
theorem backL_prefix (ts : List R) {k m : Nat} (h : k ≤ m) : backL ts k <+: backL ts m := by
  obtain ⟨d, rfl⟩ : ∃ d, m = k + d := ⟨m - k, by omega⟩
  unfold backL
  rw [List.range_add, List.map_append]
  exact List.prefix_append _ _
theorem backL_len (ts : List R) (k : Nat) : (backL ts k).length = k := by simp [backL]
/-- what comes behind a part -/
theorem back_next {ts : List R} {pre : List (Nat × R)} {x : Nat × R} (h : pre ++ [x] <+: backL ts ts.length) : pre.length < ts.length ∧ x = (ts.length - 1 - pre.length, ts[ts.length - 1 - pre.length]?.getD R.d) := by
  have hl := h.length_le
  rw [backL_len, List.length_append, List.length_singleton] at hl
  refine ⟨by omega, ?_⟩
  have h1 : (backL ts ts.length)[pre.length]? = some x := by
    obtain ⟨t, ht⟩ := h
    rw [← ht, List.getElem?_append_left (by simp), List.getElem?_append_right (Nat.le_refl _)]
    simp
  unfold backL at h1
  rw [List.getElem?_map, List.getElem?_range (by omega)] at h1
  exact (Option.some.inj h1).symm

set_option maxRecDepth 100000 in
set_option maxHeartbeats 2000000 in
theorem back1_in (F : Fence) (n : Nat) (hf : F.fn 91) (hro : F.round = none) (hn : 1 ≤ n) (l Bs n₀ nb : Nat) (A : Option Addr) (m cc lo : Nat) (ts : List R) (J : List (Nat × R) → World → Prop) (W : World) (hn₀ : n₀ ≤ W.heap.size)
    (hm : Aside (ts.length = m)) (hm1 : m ≤ 1000) (hBs : Bs < n₀) (hBn : Bs ≠ nb)
    (hY : ∀ pre x W1, J pre W1 → pre ++ [x] <+: backL ts ts.length → YieldAt F (n - 1) Try.prog l (encB x) W1 fun e W' => e = .returned (.bool true) ∧ J (pre ++ [x]) W' ∧ KB n₀ nb W1 W')
    (hc : W.cell? ⟨Bs, 0, none⟩ = some (.slice A m cc)) (hx : Ranges W lo A ts) (hx2 : 0 < m → ∀ b o, A = some ⟨b, o, none⟩ → b < n₀ ∧ b ≠ nb) (h0 : J [] W) :
    CallsIn F n Try.prog 91 #[.func (.yield l) #[] #[], .pointer (some ⟨Bs, 0, none⟩)] W fun e W' => (∃ v, e = .returned v) ∧ J (backL ts ts.length) W' := by
  refine callsIn_of_wp Try.func91 rfl hf ?_ hro
  simp only [Try.ntmps91, List.size_toArray, List.length_cons, List.length_nil, Nat.reduceAdd, Nat.reduceSub, Array.replicate_succ, Array.replicate_zero, List.push_toArray, List.append_toArray, List.nil_append, List.cons_append]
  have w0 : wrap64 ((m : Int) - 1) = (m : Int) - 1 := IntWalk.wrap64_in _ ⟨by omega, by omega⟩
  have HX := Lib.hid hx
  clear hx
  gi_wp2
  gi_loopw [3] (fun i wr => ∃ k : Nat, k ≤ m ∧ i = .int .i64 ((m : Int) - 1 - k) ∧ J (backL ts k) wr ∧ KB n₀ nb W wr)
    (fun i _ => (intOf i + 1).toNat)
  case atStart => exact ⟨0, Nat.zero_le _, by simp, h0, KB.refl _ _ _⟩
  case round =>
    obtain ⟨k, hk, rfl, hJs, hnx⟩ := hrel
    have hc' := (hnx.cell (b := Bs) (o := 0) hBs hBn).trans hc
    by_cases hlt : k < m
    · obtain ⟨b, o, rfl, _, hlb, hcs⟩ := HX.out (by have := hm.out; omega)
      have hb0 := hx2 (by omega) b o rfl
      have hms := hm.out
      have e0 := (hnx.cell (b := b) hb0.1 hb0.2).trans (hcs (m - 1 - k) 0 (by omega) (by omega))
      have e1 := (hnx.cell (b := b) hb0.1 hb0.2).trans (hcs (m - 1 - k) 1 (by omega) (by omega))
      have hsn := backL_succ ts k
      have hpre : backL ts (k + 1) <+: backL ts ts.length := backL_prefix ts (by omega)
      rw [hms] at hsn
      have hY2 := hY _ (m - 1 - k, ts[m - 1 - k]?.getD R.d) wr hJs (by rw [← hsn]; exact hpre)
      generalize ts[m - 1 - k]?.getD R.d = t at e0 e1 hsn hY2
      obtain ⟨tl, th⟩ := t
      simp only [R.cell, Nat.add_zero, if_true, Nat.one_ne_zero, if_false] at e0 e1
      obtain ⟨idx, hidx⟩ : ∃ idx, m - 1 - k = idx := ⟨_, rfl⟩
      rw [hidx] at e0 e1 hsn hY2
      have hii : (m : Int) - 1 - (k : Int) = (idx : Int) := by omega
      rw [hii]
      have hi0 : (0 : Int) ≤ (idx : Int) := Int.natCast_nonneg _
      have hi1 : (idx : Int) < (m : Int) := by omega
      have w1 : wrap64 ((idx : Int) - 1) = (idx : Int) - 1 := IntWalk.wrap64_in _ ⟨by omega, by omega⟩
      obtain ⟨fn, tmps, assign, body, hy, hR⟩ := hY2
      simp only [encB, R.val] at hy
      have Hsn := Lib.hid hsn
      have Hii := Lib.hid hii
      have Hidx := Lib.hid hidx
      clear hsn hcs hY hms hii hidx
      gi_wp2
      refine hR.mono ?_
      rintro e W3 ⟨rfl, hJ3, hk3⟩
      gi_wp2
      go_roundw
      case rel => exact ⟨k + 1, by omega, by have := Hii.out; congr 1; omega, by rw [Hsn.out]; exact hJ3, hnx.trans hk3⟩
      case measure => (simp [intOf]; try omega)
    · obtain rfl : k = m := by omega
      have hneg : ¬ (0 : Int) ≤ (k : Int) - 1 - k := by omega
      gi_wp2
      go_end0
      exact ⟨⟨_, rfl⟩, by rw [show ts.length = k from hm.out]; exact hJs⟩

theorem back_gives (F : Fence) (n : Nat) (hf : F.fn 91) (hro : F.round = none) (hn : 1 ≤ n) (Bs n₀ nb : Nat) (A : Option Addr) (m cc lo : Nat) (ts : List R) (w : World) (hn₀ : n₀ ≤ w.heap.size)
    (hm : Aside (ts.length = m)) (hm1 : m ≤ 1000) (hBs : Bs < n₀) (hBn : Bs ≠ nb) (hc : w.cell? ⟨Bs, 0, none⟩ = some (.slice A m cc)) (hx : Ranges w lo A ts) (hx2 : 0 < m → ∀ b o, A = some ⟨b, o, none⟩ → b < n₀ ∧ b ≠ nb) :
    GivesAllB F n Try.prog 91 #[] #[.pointer (some ⟨Bs, 0, none⟩)] encB n₀ nb (backL ts ts.length) w := by
  intro l J W hW hJ hY h0
  exact back1_in F n hf hro hn l Bs n₀ nb A m cc lo ts J W (Nat.le_trans hn₀ hW.size) hm hm1 hBs hBn hY ((hW.cell (p := ⟨Bs, 0, none⟩) (by show Bs < _; omega)).trans hc) (hx.below hW (Nat.le_refl _)) hx2 h0

set_option maxHeartbeats 400000 in
theorem backward_any (A : Option Addr) (m cc : Nat) (w : World) :
    Calls Try.prog 72 #[.slice A m cc] w fun e w' => e = .returned (.func (.func 91) #[] #[.pointer (some ⟨w.heap.size, 0, none⟩)]) ∧ w' = w.alloc (.cells #[.slice A m cc] 30) := by
  go_enter Try.func72, Try.ntmps72
  go_wp2
  go_ret
  exact ⟨rfl, rfl⟩


end Go.Proofs.Ytlkecgjpmnganaa
