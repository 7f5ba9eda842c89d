/- Contracts: a list copied into one's own memory (append([]T{}, l...)); two lists compared. -/
import Derived.Test.YtfohdafijfjefaaOwn
import Derived.Laws.AppendOwnNone
set_option linter.unusedSimpArgs false
set_option linter.unusedVariables false
namespace Go.Proofs.Ytfohdafijfjefaa
open Go.RowKit Go.Shelf

/-- a copy: a list of one's own -/
def OwnT (t : TypeId) (W : World) (base : Nat) (v : Value) (xs : List R) : Prop := W.ownsRow base t 2 v xs.length (xs.flatMap rCs)
theorem OwnT.reads {t : TypeId} {W : World} {base : Nat} {v : Value} {xs : List R} (h : OwnT t W base v xs) : ∃ A c, v = .slice A xs.length c ∧ xs.length ≤ c ∧ c ≤ maxLen ∧ Ranges W base A xs := by
  rcases h.2 with ⟨h0, hn⟩ | ⟨g, cap, cur, hv, hb, hh, h1, h2, h3, h4⟩
  · exact ⟨none, 0, by rw [hn]; exact h0, by omega, Nat.zero_le _, fun hp => absurd hp (by omega)⟩
  · refine ⟨_, cap, hv, h1, h2, fun hp => ⟨g, 0, rfl, hb, ?_, fun j i hj hi => ?_⟩⟩
    · rcases Nat.lt_or_ge g W.heap.size with hlt | hge
      · exact hlt
      · rw [Array.getElem?_eq_none hge] at hh; cases hh
    · have h' := h
      unfold OwnT at h'
      rw [hv] at h'
      have := h'.cellAt (j * 2 + i) (by omega)
      rw [rCs_at xs j i hj hi] at this
      simpa using this

/-- behind a copy -/
def CopyPost (w : World) (xs : List R) (n : Nat) (e : Ending) (w' : World) : Prop := ∃ A c, e = .returned (.slice A n c) ∧ n ≤ c ∧ c ≤ maxLen ∧ Ranges w' w.heap.size A xs ∧ Below w.heap.size w w'

theorem rCs_news {W : World} {b o : Nat} {xs : List R} (h : ∀ j i, j < xs.length → i < 2 → W.cell? ⟨b, o + j * 2 + i, none⟩ = some (R.cell (xs[j]?.getD R.d) i)) : ∀ j u, (xs.flatMap rCs)[j]? = some u → W.cell? ((⟨b, o, none⟩ : Addr).add j) = some u := by
  intro j u hu
  have hlt : j < xs.length * 2 := by
    have := (List.getElem?_eq_some_iff.1 hu).1
    rw [rCs_len] at this
    exact this
  have h1 := h (j / 2) (j % 2) (by omega) (by omega)
  have h2 := rCs_at xs (j / 2) (j % 2) (by omega) (by omega)
  rw [show j / 2 * 2 + j % 2 = j by omega] at h2
  rw [hu] at h2
  rw [h2, ← h1]
  unfold Addr.add
  have e : o + j / 2 * 2 + j % 2 = o + j := by omega
  rw [e]
  by_cases h0 : j = 0 <;> simp [h0]

theorem ownsRow_empty (w : World) (e : TypeId) : World.ownsRow (w.alloc (.cells #[] e)) w.heap.size e 2 (.slice (some ⟨w.heap.size, 0, none⟩) 0 0) 0 [] :=
  World.ownsRow_lit (base := w.heap.size) (e := e) (size := 2) w #[] 0 (Nat.le_refl _) (by decide) rfl

set_option maxHeartbeats 400000 in
theorem copy_39 (lo : Nat) (A : Option Addr) (n c : Nat) (xs : List R) (w : World) (hx : Ranges w lo A xs) (hn : xs.length = n) (h0 : A = none → n = 0 ∧ c = 0) (hl : n ≤ 1000000) :
    Calls Try.prog 39 #[.slice A n c] w (CopyPost w xs n) := by
  obtain ⟨i0, hi, hz0, hz1, hz2⟩ := info_parts (show (Try.prog.info? 23).map (fun i => (i.zero, i.size, i.bytes)) = some (some (.agg #[.int .i64 0, .int .i64 0]), 2, 16) by kernel_rfl)
  have Hown := Lib.hid (ownsRow_empty w 23)
  cases A with
  | none =>
    obtain ⟨h1, rfl⟩ := h0 rfl
    obtain rfl : xs = [] := List.eq_nil_of_length_eq_zero (by omega)
    obtain rfl : n = 0 := by simpa using hn.symm
    go_enter Try.func39, Try.ntmps39
    go_wp2_with (at_builtin; refine wpList_append_own_none rfl _ _ _ (by rfl) w.heap.size 23 i0 2 Try.underlying53 hi _ 0 [] (by rfl) Hown.out (by rfl) ?_)
    go_ret
    exact ⟨_, _, rfl, Nat.le_refl _, Nat.zero_le _, fun h => absurd h (by simp), (by (try show Below _ _ _); repeat (first | (with_reducible refine Below.setCell ?_ (by first | omega | (simp <;> omega)) _) | (with_reducible refine Below.alloc ?_ (by first | omega | (simp <;> omega)) _) | (with_reducible refine Below.drew ?_) | (with_reducible exact Below.refl _ _) | (with_reducible refine below_call ?_ (by assumption) (by first | omega | (simp <;> omega))) | (with_reducible refine below_call ?_ (Drew.below (by assumption) _) (by first | omega | (simp <;> omega)))))⟩
  | some a =>
    by_cases hn0 : n = 0
    · subst hn0
      obtain rfl : xs = [] := List.eq_nil_of_length_eq_zero (by omega)
      go_enter Try.func39, Try.ntmps39
      go_wp2_with (at_builtin; refine wpList_append_own _ rfl _ _ _ (by rfl) w.heap.size 23 i0 _ 2 16 Try.underlying53 hi hz0 hz1 hz2 rfl (by decide) _ 0 [] (by rfl) Hown.out a 0 c [] (by rfl) (by rfl) (by simp) (by simp) (by unfold maxLen; omega) (by omega) (by simp) ?_; intro v' w1 hown1 hg _)
      go_ret
      have hb : Below w.heap.size w w1 := Below.grown ((Below.refl _ _).alloc (Nat.le_refl _) _) hg (by simp) (by simp [Value.ownBlock])
      obtain ⟨A', c', e1, e2, e3, e4⟩ := OwnT.reads (xs := []) (t := 23) (base := w.heap.size) hown1
      subst e1
      exact ⟨A', c', rfl, e2, e3, e4, hb⟩
    · obtain ⟨b, o, hA, _, hlb, hc⟩ := hx (by omega)
      obtain rfl := Option.some.inj hA
      have hnews := rCs_news (W := w.alloc (.cells #[] 23)) (b := b) (o := o) (xs := xs) (fun j i hj hi => by have := hc j i hj hi; simp [go_sem, this, hlb])
      have hlen := rCs_len xs
      rw [hn] at hlen
      have HL := Lib.hid hlen
      have HN := Lib.hid hnews
      have Hn := Lib.hid hn
      clear hlen hnews hn hx hc
      go_enter Try.func39, Try.ntmps39
      go_wp2_with (at_builtin; refine wpList_append_own _ rfl _ _ _ (by rfl) w.heap.size 23 i0 _ 2 16 Try.underlying53 hi hz0 hz1 hz2 rfl (by decide) _ 0 [] (by rfl) Hown.out ⟨b, o, none⟩ n c (xs.flatMap rCs) (by rfl) HL.out HN.out (rCs_one xs) (by unfold maxLen; omega) (by omega) (by simp) ?_; intro v' w1 hown1 hg _)
      go_ret
      have hb : Below w.heap.size w w1 := Below.grown ((Below.refl _ _).alloc (Nat.le_refl _) _) hg (by simp) (by simp [Value.ownBlock])
      obtain ⟨A', c', e1, e2, e3, e4⟩ := OwnT.reads (xs := xs) (t := 23) (base := w.heap.size) (by rw [Nat.zero_add] at hown1; unfold OwnT; rw [Hn.out]; exact hown1)
      rw [Hn.out] at e1 e2
      subst e1
      exact ⟨A', c', rfl, e2, e3, e4, hb⟩

set_option maxHeartbeats 400000 in
theorem copy_29 (lo : Nat) (A : Option Addr) (n c : Nat) (xs : List R) (w : World) (hx : Ranges w lo A xs) (hn : xs.length = n) (h0 : A = none → n = 0 ∧ c = 0) (hl : n ≤ 1000000) :
    Calls Try.prog 29 #[.slice A n c] w (CopyPost w xs n) := by
  obtain ⟨i0, hi, hz0, hz1, hz2⟩ := info_parts (show (Try.prog.info? 32).map (fun i => (i.zero, i.size, i.bytes)) = some (some (.agg #[.int .i64 0, .int .i64 0]), 2, 16) by kernel_rfl)
  have Hown := Lib.hid (ownsRow_empty w 32)
  cases A with
  | none =>
    obtain ⟨h1, rfl⟩ := h0 rfl
    obtain rfl : xs = [] := List.eq_nil_of_length_eq_zero (by omega)
    obtain rfl : n = 0 := by simpa using hn.symm
    go_enter Try.func29, Try.ntmps29
    go_wp2_with (at_builtin; refine wpList_append_own_none rfl _ _ _ (by rfl) w.heap.size 32 i0 2 Try.underlying40 hi _ 0 [] (by rfl) Hown.out (by rfl) ?_)
    go_ret
    exact ⟨_, _, rfl, Nat.le_refl _, Nat.zero_le _, fun h => absurd h (by simp), (by (try show Below _ _ _); repeat (first | (with_reducible refine Below.setCell ?_ (by first | omega | (simp <;> omega)) _) | (with_reducible refine Below.alloc ?_ (by first | omega | (simp <;> omega)) _) | (with_reducible refine Below.drew ?_) | (with_reducible exact Below.refl _ _) | (with_reducible refine below_call ?_ (by assumption) (by first | omega | (simp <;> omega))) | (with_reducible refine below_call ?_ (Drew.below (by assumption) _) (by first | omega | (simp <;> omega)))))⟩
  | some a =>
    by_cases hn0 : n = 0
    · subst hn0
      obtain rfl : xs = [] := List.eq_nil_of_length_eq_zero (by omega)
      go_enter Try.func29, Try.ntmps29
      go_wp2_with (at_builtin; refine wpList_append_own _ rfl _ _ _ (by rfl) w.heap.size 32 i0 _ 2 16 Try.underlying40 hi hz0 hz1 hz2 rfl (by decide) _ 0 [] (by rfl) Hown.out a 0 c [] (by rfl) (by rfl) (by simp) (by simp) (by unfold maxLen; omega) (by omega) (by simp) ?_; intro v' w1 hown1 hg _)
      go_ret
      have hb : Below w.heap.size w w1 := Below.grown ((Below.refl _ _).alloc (Nat.le_refl _) _) hg (by simp) (by simp [Value.ownBlock])
      obtain ⟨A', c', e1, e2, e3, e4⟩ := OwnT.reads (xs := []) (t := 32) (base := w.heap.size) hown1
      subst e1
      exact ⟨A', c', rfl, e2, e3, e4, hb⟩
    · obtain ⟨b, o, hA, _, hlb, hc⟩ := hx (by omega)
      obtain rfl := Option.some.inj hA
      have hnews := rCs_news (W := w.alloc (.cells #[] 32)) (b := b) (o := o) (xs := xs) (fun j i hj hi => by have := hc j i hj hi; simp [go_sem, this, hlb])
      have hlen := rCs_len xs
      rw [hn] at hlen
      have HL := Lib.hid hlen
      have HN := Lib.hid hnews
      have Hn := Lib.hid hn
      clear hlen hnews hn hx hc
      go_enter Try.func29, Try.ntmps29
      go_wp2_with (at_builtin; refine wpList_append_own _ rfl _ _ _ (by rfl) w.heap.size 32 i0 _ 2 16 Try.underlying40 hi hz0 hz1 hz2 rfl (by decide) _ 0 [] (by rfl) Hown.out ⟨b, o, none⟩ n c (xs.flatMap rCs) (by rfl) HL.out HN.out (rCs_one xs) (by unfold maxLen; omega) (by omega) (by simp) ?_; intro v' w1 hown1 hg _)
      go_ret
      have hb : Below w.heap.size w w1 := Below.grown ((Below.refl _ _).alloc (Nat.le_refl _) _) hg (by simp) (by simp [Value.ownBlock])
      obtain ⟨A', c', e1, e2, e3, e4⟩ := OwnT.reads (xs := xs) (t := 32) (base := w.heap.size) (by rw [Nat.zero_add] at hown1; unfold OwnT; rw [Hn.out]; exact hown1)
      rw [Hn.out] at e1 e2
      subst e1
      exact ⟨A', c', rfl, e2, e3, e4, hb⟩

set_option maxHeartbeats 400000 in
theorem copy_60 (lo : Nat) (A : Option Addr) (n c : Nat) (xs : List R) (w : World) (hx : Ranges w lo A xs) (hn : xs.length = n) (h0 : A = none → n = 0 ∧ c = 0) (hl : n ≤ 1000000) :
    Calls Try.prog 60 #[.slice A n c] w (CopyPost w xs n) := by
  obtain ⟨i0, hi, hz0, hz1, hz2⟩ := info_parts (show (Try.prog.info? 81).map (fun i => (i.zero, i.size, i.bytes)) = some (some (.agg #[.int .i64 0, .int .i64 0]), 2, 16) by kernel_rfl)
  have Hown := Lib.hid (ownsRow_empty w 81)
  cases A with
  | none =>
    obtain ⟨h1, rfl⟩ := h0 rfl
    obtain rfl : xs = [] := List.eq_nil_of_length_eq_zero (by omega)
    obtain rfl : n = 0 := by simpa using hn.symm
    go_enter Try.func60, Try.ntmps60
    go_wp2_with (at_builtin; refine wpList_append_own_none rfl _ _ _ (by rfl) w.heap.size 81 i0 2 Try.underlying79 hi _ 0 [] (by rfl) Hown.out (by rfl) ?_)
    go_ret
    exact ⟨_, _, rfl, Nat.le_refl _, Nat.zero_le _, fun h => absurd h (by simp), (by (try show Below _ _ _); repeat (first | (with_reducible refine Below.setCell ?_ (by first | omega | (simp <;> omega)) _) | (with_reducible refine Below.alloc ?_ (by first | omega | (simp <;> omega)) _) | (with_reducible refine Below.drew ?_) | (with_reducible exact Below.refl _ _) | (with_reducible refine below_call ?_ (by assumption) (by first | omega | (simp <;> omega))) | (with_reducible refine below_call ?_ (Drew.below (by assumption) _) (by first | omega | (simp <;> omega)))))⟩
  | some a =>
    by_cases hn0 : n = 0
    · subst hn0
      obtain rfl : xs = [] := List.eq_nil_of_length_eq_zero (by omega)
      go_enter Try.func60, Try.ntmps60
      go_wp2_with (at_builtin; refine wpList_append_own _ rfl _ _ _ (by rfl) w.heap.size 81 i0 _ 2 16 Try.underlying79 hi hz0 hz1 hz2 rfl (by decide) _ 0 [] (by rfl) Hown.out a 0 c [] (by rfl) (by rfl) (by simp) (by simp) (by unfold maxLen; omega) (by omega) (by simp) ?_; intro v' w1 hown1 hg _)
      go_ret
      have hb : Below w.heap.size w w1 := Below.grown ((Below.refl _ _).alloc (Nat.le_refl _) _) hg (by simp) (by simp [Value.ownBlock])
      obtain ⟨A', c', e1, e2, e3, e4⟩ := OwnT.reads (xs := []) (t := 81) (base := w.heap.size) hown1
      subst e1
      exact ⟨A', c', rfl, e2, e3, e4, hb⟩
    · obtain ⟨b, o, hA, _, hlb, hc⟩ := hx (by omega)
      obtain rfl := Option.some.inj hA
      have hnews := rCs_news (W := w.alloc (.cells #[] 81)) (b := b) (o := o) (xs := xs) (fun j i hj hi => by have := hc j i hj hi; simp [go_sem, this, hlb])
      have hlen := rCs_len xs
      rw [hn] at hlen
      have HL := Lib.hid hlen
      have HN := Lib.hid hnews
      have Hn := Lib.hid hn
      clear hlen hnews hn hx hc
      go_enter Try.func60, Try.ntmps60
      go_wp2_with (at_builtin; refine wpList_append_own _ rfl _ _ _ (by rfl) w.heap.size 81 i0 _ 2 16 Try.underlying79 hi hz0 hz1 hz2 rfl (by decide) _ 0 [] (by rfl) Hown.out ⟨b, o, none⟩ n c (xs.flatMap rCs) (by rfl) HL.out HN.out (rCs_one xs) (by unfold maxLen; omega) (by omega) (by simp) ?_; intro v' w1 hown1 hg _)
      go_ret
      have hb : Below w.heap.size w w1 := Below.grown ((Below.refl _ _).alloc (Nat.le_refl _) _) hg (by simp) (by simp [Value.ownBlock])
      obtain ⟨A', c', e1, e2, e3, e4⟩ := OwnT.reads (xs := xs) (t := 81) (base := w.heap.size) (by rw [Nat.zero_add] at hown1; unfold OwnT; rw [Hn.out]; exact hown1)
      rw [Hn.out] at e1 e2
      subst e1
      exact ⟨A', c', rfl, e2, e3, e4, hb⟩


end Go.Proofs.Ytfohdafijfjefaa
