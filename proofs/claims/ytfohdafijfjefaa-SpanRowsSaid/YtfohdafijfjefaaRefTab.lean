/- Contracts: reference Table, At, Value. -/
import Derived.Test.YtfohdafijfjefaaValuesB
import Derived.Test.YtfohdafijfjefaaRef1
set_option linter.unusedSimpArgs false
set_option linter.unusedVariables false
namespace Go.Proofs.Ytfohdafijfjefaa
open Go.RowKit Go.Shelf
attribute [local go_sem ↓] Go.wp_at_zero Go.wp_at_succ

theorem rowsOk_succ (t : List R) (k : Nat) : rowsOk t (k + 1) ↔ rowsOk t k ∧ (btw (-1000000000) 1000000000 [(t[k]?.getD R.d).lo, (t[k]?.getD R.d).hi] = true ∧ (0 < k → (t[k - 1]?.getD R.d).lo < (t[k]?.getD R.d).lo)) := by
  unfold rowsOk
  constructor
  · intro h
    exact ⟨fun i hi => h i (by omega), h k (by omega)⟩
  · rintro ⟨h1, h2⟩ i hi
    by_cases e : i = k
    · subst e; exact h2
    · exact h1 i (by omega)

theorem rowsOk_le {t : List R} {k m : Nat} (h : rowsOk t m) (hk : k ≤ m) : rowsOk t k := fun i hi => h i (by omega)

theorem tableS_no {t : List R} {k : Nat} (hk : k < t.length) (h : ¬ rowsOk t (k + 1)) : tableS t = false := by
  unfold tableS
  rw [show decide (rowsOk t t.length) = false from decide_eq_false (fun h' => h (rowsOk_le h' hk))]
  rfl

set_option maxRecDepth 100000 in
set_option maxHeartbeats 2000000 in
theorem refTable_any (lo : Nat) (A : Option Addr) (n c : Nat) (t : List R) (w : World) (hx : Ranges w lo A t) (hn : Aside (t.length = n)) (hl : n ≤ maxLen) :
    Calls Try.prog 67 #[.slice A n c] w fun e w' => e = .returned (.bool (tableS t)) ∧ Below w.heap.size w w' := by
  unfold maxLen at hl
  have h1 := fun W => in_any (n : Int) 2 60 W
  by_cases hlen : 2 ≤ n ∧ n ≤ 60
  · have hi : inS (n : Int) 2 60 = true := (inS_iff _ _ _).2 (by omega)
    rw [hi] at h1
    have hgood : rowsOk t t.length → tableS t = true := fun h => (tableS_iff t).2 ⟨h, by have := hn.out; omega, by have := hn.out; omega⟩
    have hbad : ∀ k, k < n → ¬ rowsOk t (k + 1) → tableS t = false := fun k hk h => tableS_no (by have := hn.out; omega) h
    generalize hres : tableS t = res at hgood hbad ⊢
    have Hgood := Lib.hid hgood
    have Hbad := Lib.hid hbad
    have HX := Lib.hid hx
    clear hgood hbad hres hx hi
    go_enter Try.func67, Try.ntmps67
    go_wp2_with fail
    refine (h1 _).mono ?_
    rintro e w0x ⟨rfl, rfl⟩
    go_wp2
    go_loopg [3] (n) (fun gg i wr => ∃ k : Nat, k ≤ n ∧ n - k ≤ gg ∧ i = .int .i64 k ∧ Aside (rowsOk t k) ∧ Aside (Drew w wr))
    case atStart => exact ⟨0, Nat.zero_le _, Nat.le_refl _, rfl, (fun i hi => absurd hi (Nat.not_lt_zero _)), Drew.refl _⟩
    case round =>
      obtain ⟨k, hk, hg, rfl, hap, hd⟩ := hrel
      have hdb := hd.out.below (w.heap.size)
      have hds := hd.out.size
      by_cases hlt : k < n
      · obtain ⟨b, o, rfl, _, hlb, hc⟩ := HX.out (by have := hn.out; omega)
        have hbw : b < wr.heap.size := by omega
        have x0 := (hdb.cell (p := ⟨b, o + k * 2 + 0, none⟩) hlb).trans (hc k 0 (by have := hn.out; omega) (by omega))
        have x1 := (hdb.cell (p := ⟨b, o + k * 2 + 1, none⟩) hlb).trans (hc k 1 (by have := hn.out; omega) (by omega))
        have hbd := Hbad.out k hlt
        rw [rowsOk_succ] at hbd
        have hstep := (rowsOk_succ t k).2
        have hltz : (k : Int) < (n : Int) := by omega
        have hk0 : (0 : Int) ≤ (k : Int) := by omega

        rcases Nat.eq_zero_or_pos k with hkz | hkz
        · subst hkz
          clear hc
          generalize t[0]?.getD R.d = x at x0 x1 hbd hstep
          obtain ⟨p0, p1⟩ := x
          simp only [R.cell, Nat.zero_mul, Nat.add_zero, if_true, Nat.one_ne_zero, if_false] at x0 x1
          simp only [rowsOk_at.btw2'] at hbd hstep
          have Hbd := Lib.hid hbd
          have Hst := Lib.hid hstep
          clear hbd hstep
          cases i0 : inS p0 (-1000000000) 1000000000 with
          | false =>
            have hr := Lib.hid (Hbd.out (fun h => by have := (inS_no _ _ _).1 i0; omega))
            have I0 := i0
            go_wp2_with fail
            go_quiet ((go_at_call 45; exact quiet_same (in_any _ _ _ _)))
            go_wp2
            go_ret
            exact ⟨by rw [hr.out]; rfl, below_drewN' (hd.out.below _) _⟩
          | true =>
            cases i1 : inS p1 (-1000000000) 1000000000 with
            | false =>
              have hr := Lib.hid (Hbd.out (fun h => by have := (inS_no _ _ _).1 i1; omega))
              have I0 := i0
              go_wp2_with fail
              go_quiet ((go_at_call 45; exact quiet_same (in_any _ _ _ _)))
              go_wp2
              go_ret
              exact ⟨by rw [hr.out]; rfl, below_drewN' (hd.out.below _) _⟩
            | true =>
              have hr := Lib.hid (Hst.out ⟨hap.out, ⟨(inS_iff _ _ _).1 i0, (inS_iff _ _ _).1 i1⟩, fun h => absurd h (by omega)⟩)
              go_wp2_with fail
              go_quiet ((go_at_call 45; exact quiet_same (in_any _ _ _ _)))
              go_wp2
              go_roundg (n - (0 + 1))
              case measure => omega
              case rel => exact ⟨0 + 1, by omega, by omega, by go_num, hr.out, (by obtain ⟨m, hm⟩ := hd.out; exact ⟨m + _, by rw [hm]; exact (World.drewN_drewN _ _ _)⟩)⟩
        · obtain ⟨j, rfl⟩ : ∃ j, k = j + 1 := ⟨k - 1, by omega⟩
          have y0 := (hdb.cell (p := ⟨b, o + j * 2 + 0, none⟩) hlb).trans (hc j 0 (by have := hn.out; omega) (by omega))
          clear hc hkz
          simp only [Nat.add_sub_cancel] at hbd hstep
          generalize t[j + 1]?.getD R.d = x at x0 x1 hbd hstep
          generalize t[j]?.getD R.d = y at y0 hbd hstep
          obtain ⟨p0, p1⟩ := x
          obtain ⟨q0, q1⟩ := y
          simp only [R.cell, Nat.add_zero, if_true, Nat.one_ne_zero, if_false] at x0 x1 y0
          simp only [rowsOk_at.btw2'] at hbd hstep
          have Hbd := Lib.hid hbd
          have Hst := Lib.hid hstep
          clear hbd hstep
          have hgt : (0 : Int) < (j : Int) + 1 := by omega
          have hj2 : (0 : Int) ≤ (j : Int) + 1 := by omega
          have hwj : IntKind.i64.wrap (j : Int) = (j : Int) := by rw [IntKind.wrap_i64]; omega
          have hj3 : (j : Int) + 1 < (n : Int) := by omega
          have hj4 : (j : Int) < (n : Int) := by omega
          have hj0 : (0 : Int) ≤ (j : Int) := by omega
          have hjn : j < n := by omega
          have hjn1 : j + 1 < n := hlt
          cases i0 : inS p0 (-1000000000) 1000000000 with
          | false =>
            have hr := Lib.hid (Hbd.out (fun h => by have := (inS_no _ _ _).1 i0; omega))
            have I0 := i0
            go_wp2_with fail
            go_quiet ((go_at_call 45; exact quiet_same (in_any _ _ _ _)))
            go_wp2
            go_ret
            exact ⟨by rw [hr.out]; rfl, below_drewN' (hd.out.below _) _⟩
          | true =>
            cases i1 : inS p1 (-1000000000) 1000000000 with
            | false =>
              have hr := Lib.hid (Hbd.out (fun h => by have := (inS_no _ _ _).1 i1; omega))
              have I0 := i0
              go_wp2_with fail
              go_quiet ((go_at_call 45; exact quiet_same (in_any _ _ _ _)))
              go_wp2
              go_ret
              exact ⟨by rw [hr.out]; rfl, below_drewN' (hd.out.below _) _⟩
            | true =>
              by_cases hord : p0 ≤ q0
              · have hr := Lib.hid (Hbd.out (fun h => by have := h.2.2 (by omega); omega))
                have I0 := i0
                go_wp2_with fail
                go_quiet ((go_at_call 45; exact quiet_same (in_any _ _ _ _)))
                go_wp2
                go_ret
                exact ⟨by rw [hr.out]; rfl, below_drewN' (hd.out.below _) _⟩
              · have hord2 : q0 < p0 := by omega
                have hr := Lib.hid (Hst.out ⟨hap.out, ⟨(inS_iff _ _ _).1 i0, (inS_iff _ _ _).1 i1⟩, fun h => hord2⟩)
                go_wp2_with fail
                go_quiet ((go_at_call 45; exact quiet_same (in_any _ _ _ _)))
                go_wp2
                go_roundg (n - ((j + 1) + 1))
                case measure => omega
                case rel => exact ⟨(j + 1) + 1, by omega, by omega, by go_num, hr.out, (by obtain ⟨m, hm⟩ := hd.out; exact ⟨m + _, by rw [hm]; exact (World.drewN_drewN _ _ _)⟩)⟩
      · have hltz : ¬ (k : Int) < (n : Int) := by omega
        have hr := Lib.hid (Hgood.out (by rw [hn.out]; exact rowsOk_le hap.out (by omega)))
        go_wp2
        go_ret
        exact ⟨by rw [hr.out]; rfl, hd.out.below _⟩
  · have hi : inS (n : Int) 2 60 = false := (inS_no _ _ _).2 (by omega)
    rw [hi] at h1
    have e : tableS t = false := by
      cases h : tableS t with
      | false => rfl
      | true => have := (tableS_iff t).1 h; have := hn.out; omega
    rw [e]
    clear hx e hi
    go_enter Try.func67, Try.ntmps67
    go_wp2_with fail
    refine (h1 _).mono ?_
    rintro e w0x ⟨rfl, rfl⟩
    go_wp2
    go_ret
    exact ⟨rfl, Below.refl _ _⟩

set_option maxRecDepth 100000 in
set_option maxHeartbeats 2000000 in
theorem refAt_any (lo : Nat) (A : Option Addr) (n c : Nat) (t : List R) (x : Int) (k : Nat) (w : World) (hx : Ranges w lo A t) (hn : Aside (t.length = n)) (hl : n ≤ 60) (hok : Aside (rowsOk t t.length)) (hs : Aside (Seg t x k)) :
    Calls Try.prog 119 #[.slice A n c, .int .i64 x] w fun e w' => e = .returned (.tuple #[.int .i64 (k : Int), .int .i64 (((t[k + 1]?.getD R.d).hi - (t[k]?.getD R.d).hi) * (x - (t[k]?.getD R.d).lo)), .int .i64 ((t[k + 1]?.getD R.d).lo - (t[k]?.getD R.d).lo)]) ∧ Below w.heap.size w w' := by
  obtain ⟨b, o, rfl, _, hlb, hc⟩ := hx (by have := hs.out.1; omega)
  obtain ⟨sb1, sb2, sb3, sb4, sb5⟩ := seg_bd hok.out hs.out
  have hk1 := hs.out.1
  have hk2 := hs.out.2.2
  have hmono := rows_mono hok.out
  rw [hn.out] at hk1 hk2
  have hcell : ∀ m, m < n → w.cell? ⟨b, o + m * 2, none⟩ = some (.int .i64 (t[m]?.getD R.d).lo) := fun m hm => by have := hc m 0 (by have := hn.out; omega) (by omega); simpa [R.cell] using this
  have HC := Lib.hid hcell
  have HM := Lib.hid (show ∀ m, m < k → (t[m + 1]?.getD R.d).lo ≤ x from fun m hm => by
    rcases Nat.lt_or_ge (m + 1) k with h | h
    · have := hmono (m + 1) k h (by have := hn.out; omega); omega
    · obtain rfl : m + 1 = k := by omega
      exact sb3)
  have hc1 := hc k 1 (by have := hn.out; omega) (by omega)
  have hc3 := hc (k + 1) 1 (by have := hn.out; omega) (by omega)
  have HB := Lib.hid (show ∀ m, m < n → -1000000000 ≤ (t[m]?.getD R.d).lo ∧ (t[m]?.getD R.d).lo ≤ 1000000000 from fun m hm => (rowsOk_at hok.out m (by have := hn.out; omega)).1)
  have e0 := HC.out k (by omega)
  have e1 := HC.out (k + 1) (by omega)
  generalize hak : t[k]?.getD R.d = a at *
  generalize hbk : t[k + 1]?.getD R.d = bb at *
  have HBK := Lib.hid hbk
  obtain ⟨a0, a1⟩ := a
  obtain ⟨b0, b1⟩ := bb
  simp only [R.cell, Nat.add_zero, if_true, Nat.one_ne_zero, if_false] at hc1 hc3
  simp only at sb1 sb2 sb3 sb4 sb5 e0 e1 hk2 ⊢
  have hw1 : IntKind.i64.wrap (b1 - a1) = b1 - a1 := by rw [IntKind.wrap_i64]; omega
  have hw2 : IntKind.i64.wrap (x - a0) = x - a0 := by rw [IntKind.wrap_i64]; omega
  have hw3 : IntKind.i64.wrap (b0 - a0) = b0 - a0 := by rw [IntKind.wrap_i64]; omega
  have hmb : -4000000000000000000 ≤ (b1 - a1) * (x - a0) ∧ (b1 - a1) * (x - a0) ≤ 4000000000000000000 := by
    have h : ((b1 - a1) * (x - a0)).natAbs ≤ 2000000000 * 2000000000 := by
      rw [Int.natAbs_mul]
      exact Nat.mul_le_mul (by omega) (by omega)
    omega
  have hw4 : IntKind.i64.wrap ((b1 - a1) * (x - a0)) = (b1 - a1) * (x - a0) := by rw [IntKind.wrap_i64]; omega
  clear hc hcell hmono hx hak hbk
  go_enter Try.func119, Try.ntmps119
  go_wp2
  go_loopg [7] (k) (fun gg i wr => ∃ m : Nat, m ≤ k ∧ k - m ≤ gg ∧ i = .int .i64 m ∧ Aside (Below w.heap.size w wr))
  case atStart => exact ⟨0, Nat.zero_le _, Nat.le_refl _, rfl, Below.refl _ _⟩
  case round =>
    obtain ⟨m, hm, hg, rfl, hb⟩ := hrel
    have hbs := hb.out.size
    have hm0 : (0 : Int) ≤ (m : Int) := by omega
    by_cases hlt : m < k
    · have y0 := (hb.out.cell (p := ⟨b, o + (m + 1) * 2, none⟩) hlb).trans (HC.out (m + 1) (by omega))
      have hle := HM.out m hlt
      generalize (t[m + 1]?.getD R.d).lo = v at y0 hle
      have h2 : (m : Int) + 2 < (n : Int) := by omega
      have h3 : (0 : Int) ≤ (m : Int) + 1 := by omega
      have h4 : (m : Int) + 1 < (n : Int) := by omega
      have h5 : m + 1 < n := by omega
      go_wp2
      go_roundg (k - (m + 1))
      case measure => omega
      case rel => exact ⟨m + 1, by omega, by omega, by go_num, (by (try show Below _ _ _); repeat (first | (with_reducible refine Below.setCell ?_ (by first | omega | (simp <;> omega)) _) | (with_reducible refine Below.alloc ?_ (by first | omega | (simp <;> omega)) _) | (with_reducible refine Below.drew ?_) | (with_reducible exact Below.refl _ _) | (with_reducible exact hb.out) | (with_reducible refine below_call ?_ (by assumption) (by first | omega | (simp <;> omega))) | (with_reducible refine below_call ?_ (Drew.below (by assumption) _) (by first | omega | (simp <;> omega)))))⟩
    · obtain rfl : m = k := by omega
      have f0 := (hb.out.cell (p := ⟨b, o + m * 2, none⟩) hlb).trans e0
      have f1 := (hb.out.cell (p := ⟨b, o + (m + 1) * 2, none⟩) hlb).trans e1
      have f2 := (hb.out.cell (p := ⟨b, o + m * 2 + 1, none⟩) hlb).trans hc1
      have f3 := (hb.out.cell (p := ⟨b, o + (m + 1) * 2 + 1, none⟩) hlb).trans hc3
      have h3 : (0 : Int) ≤ (m : Int) + 1 := by omega
      have h4 : (m : Int) + 1 < (n : Int) := by omega
      have h5 : m + 1 < n := by omega
      have h6 : m < n := by omega
      have h7 : (m : Int) < (n : Int) := by omega
      clear e0 e1 hc1 hc3 hm0
      by_cases hend : m + 2 < n
      · have hend2 : (m : Int) + 2 < (n : Int) := by omega
        have hxl : ¬ b0 ≤ x := by omega
        have hm0 : (0 : Int) ≤ (m : Int) := by omega
        go_wp2_with fail
        go_quiet (fail)
        go_wp2
        go_ret3
        exact ⟨rfl, below_drewN' hb.out _⟩
      · have hend2 : ¬ (m : Int) + 2 < (n : Int) := by omega
        have hm0 : (0 : Int) ≤ (m : Int) := by omega
        go_wp2_with fail
        go_quiet (fail)
        go_wp2
        go_ret3
        exact ⟨rfl, below_drewN' hb.out _⟩

end Go.Proofs.Ytfohdafijfjefaa
