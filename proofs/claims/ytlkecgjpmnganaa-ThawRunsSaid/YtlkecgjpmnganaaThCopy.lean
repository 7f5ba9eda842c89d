/- Contracts: lists copied into one's own memory (spilelaw04.own, kinds). -/
import Derived.Test.YtlkecgjpmnganaaThOwn
import Derived.Test.YtlkecgjpmnganaaThKinds
import Derived.Laws.AppendOwnNone
set_option linter.unusedSimpArgs false
set_option linter.unusedVariables false
namespace Go.Proofs.Ytlkecgjpmnganaa
open Go.RowKit Go.Shelf

theorem infoRange' : (Try.prog.info? 23).map (fun i => (i.zero, i.size, i.bytes)) = some (some (.agg #[.int .i64 0, .int .i64 0]), 2, 16) := by kernel_rfl

set_option maxHeartbeats 400000 in
theorem copy_16 (lo : Nat) (A : Option Addr) (n c : Nat) (xs : List _) (w : World) (hx : rngL.at w lo A xs) (hn : xs.length = n) (h0 : A = none → n = 0 ∧ c = 0) (hl : n ≤ 1000000) :
    Calls Try.prog 16 #[.slice A n c] w (CopyK rngL w xs n) := by
  obtain ⟨i0, hi, hz0, hz1, hz2⟩ := info_parts infoRange'
  have Hown := Lib.hid (ownsRow_emptyK w 23 2)
  cases A with
  | none =>
    obtain ⟨h1, rfl⟩ := h0 rfl
    obtain rfl : xs = [] := List.eq_nil_of_length_eq_zero (by omega)
    obtain rfl : n = 0 := by simpa using hn.symm
    go_enter Try.func16, Try.ntmps16
    go_wp2_with (at_builtin; refine wpList_append_own_none rfl _ _ _ (by rfl) w.heap.size 23 i0 2 Try.underlying30 hi _ 0 [] (by rfl) Hown.out (by rfl) ?_)
    go_ret
    exact ⟨_, _, rfl, Nat.le_refl _, Nat.zero_le _, fun h => absurd h (by simp), (by (try show Below _ _ _); repeat (first | (with_reducible refine Below.setCell ?_ (by first | omega | (simp <;> omega)) _) | (with_reducible refine Below.alloc ?_ (by first | omega | (simp <;> omega)) _) | (with_reducible refine Below.drew ?_) | (with_reducible exact Below.refl _ _) | (with_reducible refine below_call ?_ (by assumption) (by first | omega | (simp <;> omega))) | (with_reducible refine below_call ?_ (Drew.below (by assumption) _) (by first | omega | (simp <;> omega)))))⟩
  | some a =>
    by_cases hn0 : n = 0
    · subst hn0
      obtain rfl : xs = [] := List.eq_nil_of_length_eq_zero (by omega)
      go_enter Try.func16, Try.ntmps16
      go_wp2_with (at_builtin; refine wpList_append_own _ rfl _ _ _ (by rfl) w.heap.size 23 i0 _ 2 16 Try.underlying30 hi hz0 hz1 hz2 rfl (by decide) _ 0 [] (by rfl) Hown.out a 0 c [] (by rfl) (by rfl) (by simp) (by simp) (by unfold maxLen; omega) (by omega) (by simp) ?_; intro v' w1 hown1 hg _)
      go_ret
      have hb : Below w.heap.size w w1 := Below.grown ((Below.refl _ _).alloc (Nat.le_refl _) _) hg (by simp) (by simp [Value.ownBlock])
      obtain ⟨A', c', e1, e2, e3, _, e4⟩ := OwnK.reads (L := rngL) (xs := []) (t := 23) (base := w.heap.size) hown1
      subst e1
      exact ⟨A', c', rfl, e2, e3, e4, hb⟩
    · obtain ⟨b, o, hA, _, hlb, hc⟩ := hx (by omega)
      obtain rfl := Option.some.inj hA
      have hnews := rngL.news (W := w.alloc (.cells #[] 23)) (b := b) (o := o) (xs := xs) (fun j i hj hi => by have := hc j i hj hi; simp [go_sem, this, hlb])
      have hlen := rngL.flat_len xs
      rw [hn] at hlen
      have HL := Lib.hid hlen
      have HN := Lib.hid hnews
      have Hn := Lib.hid hn
      clear hlen hnews hn hx hc
      go_enter Try.func16, Try.ntmps16
      go_wp2_with (at_builtin; refine wpList_append_own _ rfl _ _ _ (by rfl) w.heap.size 23 i0 _ 2 16 Try.underlying30 hi hz0 hz1 hz2 rfl (by decide) _ 0 [] (by rfl) Hown.out ⟨b, o, none⟩ n c (xs.flatMap rngL.cs) (by rfl) HL.out HN.out (rngL.flat_one xs) (by unfold maxLen; omega) (by omega) (by simp) ?_; intro v' w1 hown1 hg _)
      go_ret
      have hb : Below w.heap.size w w1 := Below.grown ((Below.refl _ _).alloc (Nat.le_refl _) _) hg (by simp) (by simp [Value.ownBlock])
      obtain ⟨A', c', e1, e2, e3, _, e4⟩ := OwnK.reads (L := rngL) (xs := xs) (t := 23) (base := w.heap.size) (by rw [Nat.zero_add] at hown1; unfold OwnK; rw [Hn.out]; exact hown1)
      rw [Hn.out] at e1 e2
      subst e1
      exact ⟨A', c', rfl, e2, e3, e4, hb⟩

set_option maxHeartbeats 400000 in
theorem copy_25 (lo : Nat) (A : Option Addr) (n c : Nat) (xs : List _) (w : World) (hx : intL.at w lo A xs) (hn : xs.length = n) (h0 : A = none → n = 0 ∧ c = 0) (hl : n ≤ 1000000) :
    Calls Try.prog 25 #[.slice A n c] w (CopyK intL w xs n) := by
  obtain ⟨i0, hi, hz0, hz1, hz2⟩ := info_parts infoKind
  have Hown := Lib.hid (ownsRow_emptyK w 43 1)
  cases A with
  | none =>
    obtain ⟨h1, rfl⟩ := h0 rfl
    obtain rfl : xs = [] := List.eq_nil_of_length_eq_zero (by omega)
    obtain rfl : n = 0 := by simpa using hn.symm
    go_enter Try.func25, Try.ntmps25
    go_wp2_with (at_builtin; refine wpList_append_own_none rfl _ _ _ (by rfl) w.heap.size 43 i0 1 Try.underlying37 hi _ 0 [] (by rfl) Hown.out (by rfl) ?_)
    go_ret
    exact ⟨_, _, rfl, Nat.le_refl _, Nat.zero_le _, fun h => absurd h (by simp), (by (try show Below _ _ _); repeat (first | (with_reducible refine Below.setCell ?_ (by first | omega | (simp <;> omega)) _) | (with_reducible refine Below.alloc ?_ (by first | omega | (simp <;> omega)) _) | (with_reducible refine Below.drew ?_) | (with_reducible exact Below.refl _ _) | (with_reducible refine below_call ?_ (by assumption) (by first | omega | (simp <;> omega))) | (with_reducible refine below_call ?_ (Drew.below (by assumption) _) (by first | omega | (simp <;> omega)))))⟩
  | some a =>
    by_cases hn0 : n = 0
    · subst hn0
      obtain rfl : xs = [] := List.eq_nil_of_length_eq_zero (by omega)
      go_enter Try.func25, Try.ntmps25
      go_wp2_with (at_builtin; refine wpList_append_own _ rfl _ _ _ (by rfl) w.heap.size 43 i0 _ 1 8 Try.underlying37 hi hz0 hz1 hz2 rfl (by decide) _ 0 [] (by rfl) Hown.out a 0 c [] (by rfl) (by rfl) (by simp) (by simp) (by unfold maxLen; omega) (by omega) (by simp) ?_; intro v' w1 hown1 hg _)
      go_ret
      have hb : Below w.heap.size w w1 := Below.grown ((Below.refl _ _).alloc (Nat.le_refl _) _) hg (by simp) (by simp [Value.ownBlock])
      obtain ⟨A', c', e1, e2, e3, _, e4⟩ := OwnK.reads (L := intL) (xs := []) (t := 43) (base := w.heap.size) hown1
      subst e1
      exact ⟨A', c', rfl, e2, e3, e4, hb⟩
    · obtain ⟨b, o, hA, _, hlb, hc⟩ := hx (by omega)
      obtain rfl := Option.some.inj hA
      have hnews := intL.news (W := w.alloc (.cells #[] 43)) (b := b) (o := o) (xs := xs) (fun j i hj hi => by have := hc j i hj hi; simp [go_sem, this, hlb])
      have hlen := intL.flat_len xs
      rw [hn] at hlen
      have HL := Lib.hid hlen
      have HN := Lib.hid hnews
      have Hn := Lib.hid hn
      clear hlen hnews hn hx hc
      go_enter Try.func25, Try.ntmps25
      go_wp2_with (at_builtin; refine wpList_append_own _ rfl _ _ _ (by rfl) w.heap.size 43 i0 _ 1 8 Try.underlying37 hi hz0 hz1 hz2 rfl (by decide) _ 0 [] (by rfl) Hown.out ⟨b, o, none⟩ n c (xs.flatMap intL.cs) (by rfl) HL.out HN.out (intL.flat_one xs) (by unfold maxLen; omega) (by omega) (by simp) ?_; intro v' w1 hown1 hg _)
      go_ret
      have hb : Below w.heap.size w w1 := Below.grown ((Below.refl _ _).alloc (Nat.le_refl _) _) hg (by simp) (by simp [Value.ownBlock])
      obtain ⟨A', c', e1, e2, e3, _, e4⟩ := OwnK.reads (L := intL) (xs := xs) (t := 43) (base := w.heap.size) (by rw [Nat.zero_add] at hown1; unfold OwnK; rw [Hn.out]; exact hown1)
      rw [Hn.out] at e1 e2
      subst e1
      exact ⟨A', c', rfl, e2, e3, e4, hb⟩


end Go.Proofs.Ytlkecgjpmnganaa
