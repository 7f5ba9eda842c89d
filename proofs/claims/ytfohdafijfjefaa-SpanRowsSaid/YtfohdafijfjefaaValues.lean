/- Contracts: span.CheckTable, Value, Values. -/
import Derived.Test.YtfohdafijfjefaaTabAt
import Derived.Test.YtfohdafijfjefaaRefSums2
set_option linter.unusedSimpArgs false
set_option linter.unusedVariables false
namespace Go.Proofs.Ytfohdafijfjefaa
open Go.RowKit Go.Shelf
attribute [local go_sem ↓] Go.wp_at_zero Go.wp_at_succ

open Classical in
/-- the value of a table at a place -/
noncomputable def valS (t : List R) (x : Int) : R := if h : ∃ k, Seg t x k then valAt (t[h.choose]?.getD R.d) (t[h.choose + 1]?.getD R.d) x else ⟨0, 0⟩
theorem valS_eq {t : List R} {x : Int} {k : Nat} (hok : rowsOk t t.length) (hs : Seg t x k) : valS t x = valAt (t[k]?.getD R.d) (t[k + 1]?.getD R.d) x := by
  have h : ∃ k, Seg t x k := ⟨k, hs⟩
  unfold valS
  rw [dif_pos h, seg_unique hok h.choose_spec hs]

def firstX (t : List R) : Int := (t[0]?.getD R.d).lo
def lastX (t : List R) : Int := (t[t.length - 1]?.getD R.d).lo

theorem seg_exists {t : List R} {x : Int} (hl : 2 ≤ t.length) (h0 : firstX t ≤ x) (h1 : x ≤ lastX t) : ∃ k, Seg t x k := by
  -- the greatest k below the last but one whose row does not lie behind x
  have key : ∀ m, m + 2 ≤ t.length → (∃ k, k ≤ m ∧ (t[k]?.getD R.d).lo ≤ x ∧ (k = m ∨ x < (t[k + 1]?.getD R.d).lo)) := by
    intro m
    induction m with
    | zero => intro _; exact ⟨0, Nat.le_refl _, h0, .inl rfl⟩
    | succ m ih =>
      intro hm
      obtain ⟨k, hk, hk1, hk2⟩ := ih (by omega)
      rcases hk2 with rfl | hk2
      · by_cases hc : (t[k + 1]?.getD R.d).lo ≤ x
        · exact ⟨k + 1, Nat.le_refl _, hc, .inl rfl⟩
        · exact ⟨k, by omega, hk1, .inr (by omega)⟩
      · exact ⟨k, by omega, hk1, .inr hk2⟩
  obtain ⟨k, hk, hk1, hk2⟩ := key (t.length - 2) (by omega)
  refine ⟨k, by omega, hk1, ?_⟩
  rcases hk2 with h | h
  · refine .inr ⟨by omega, ?_⟩
    have : k + 1 = t.length - 1 := by omega
    rw [this]; exact h1
  · exact .inl h

def valueIn (t : List R) (x : Int) : Bool := btw (firstX t) (lastX t) [x]
noncomputable def valueS (t : List R) (x : Int) : R × Int := if tableS t = false then (⟨0, 0⟩, 2) else if valueIn t x = false then (⟨0, 0⟩, 3) else (valS t x, 0)

theorem valS_bd {t : List R} {x : Int} (hok : tableS t = true) (hx : valueIn t x = true) : -3000000000 ≤ (valS t x).lo ∧ (valS t x).lo ≤ (valS t x).hi ∧ (valS t x).hi ≤ 3000000000 := by
  obtain ⟨h1, h2, h3⟩ := (tableS_iff t).1 hok
  obtain ⟨h4, h5⟩ := (btw1 _ _ _).1 hx
  obtain ⟨k, hs⟩ := seg_exists h2 h4 h5
  rw [valS_eq h1 hs]
  exact valAt_bd h1 hs

set_option maxHeartbeats 400000 in
theorem CheckTable_any (lo : Nat) (A : Option Addr) (n c : Nat) (t : List R) (w : World) (hx : Ranges w lo A t) (hn : Aside (t.length = n)) (hl : n ≤ maxLen) :
    Calls Try.prog 66 #[.slice A n c] w fun e w' => e = .returned (.int .i64 (if tableS t = true then 0 else 2)) ∧ Below w.heap.size w w' := by
  have hT := isTable_any lo A n c t w hx hn hl
  clear hx
  cases h : tableS t with
  | true =>
    rw [h] at hT
    rw [if_pos rfl]
    go_enter Try.func66, Try.ntmps66
    go_wp2_with fail
    refine (hT).mono ?_
    rintro e w1 ⟨rfl, hb1⟩
    have hz1 := hb1.size
    try simp only [World.size_alloc, World.size_setCell, World.size_drew] at hz1
    go_wp2
    go_ret
    exact ⟨rfl, (by (try show Below _ _ _); repeat (first | (with_reducible refine Below.setCell ?_ (by first | omega | (simp <;> omega)) _) | (with_reducible refine Below.alloc ?_ (by first | omega | (simp <;> omega)) _) | (with_reducible refine Below.drew ?_) | (with_reducible exact Below.refl _ _) | (with_reducible refine below_call ?_ (by assumption) (by first | omega | (simp <;> omega))) | (with_reducible refine below_call ?_ (Drew.below (by assumption) _) (by first | omega | (simp <;> omega)))))⟩
  | false =>
    rw [h] at hT
    rw [if_neg (by decide)]
    go_enter Try.func66, Try.ntmps66
    go_wp2_with fail
    refine (hT).mono ?_
    rintro e w1 ⟨rfl, hb1⟩
    have hz1 := hb1.size
    try simp only [World.size_alloc, World.size_setCell, World.size_drew] at hz1
    go_wp2
    go_ret
    exact ⟨rfl, (by (try show Below _ _ _); repeat (first | (with_reducible refine Below.setCell ?_ (by first | omega | (simp <;> omega)) _) | (with_reducible refine Below.alloc ?_ (by first | omega | (simp <;> omega)) _) | (with_reducible refine Below.drew ?_) | (with_reducible exact Below.refl _ _) | (with_reducible refine below_call ?_ (by assumption) (by first | omega | (simp <;> omega))) | (with_reducible refine below_call ?_ (Drew.below (by assumption) _) (by first | omega | (simp <;> omega)))))⟩

/-- at, wherever the place lies -/
theorem at_val (lo : Nat) (A : Option Addr) (n c : Nat) (t : List R) (x : Int) (w : World) (hx : Ranges w lo A t) (hn : Aside (t.length = n)) (hok : tableS t = true) (hs : valueIn t x = true) :
    Calls Try.prog 116 #[.slice A n c, .int .i64 x] w fun e w' => e = .returned (.tuple #[.int .i64 (valS t x).lo, .int .i64 (valS t x).hi]) ∧ Below w.heap.size w w' := by
  obtain ⟨h1, h2, h3⟩ := (tableS_iff t).1 hok
  obtain ⟨h4, h5⟩ := (btw1 _ _ _).1 hs
  obtain ⟨k, hk⟩ := seg_exists h2 h4 h5
  rw [valS_eq h1 hk]
  exact at_any lo A n c t x k w hx hn (by have := hn.out; omega) h1 hk

theorem ends_val (lo : Nat) (A : Option Addr) (n c : Nat) (t : List R) (w : World) (hx : Ranges w lo A t) (hn : Aside (t.length = n)) (hok : tableS t = true) :
    Calls Try.prog 115 #[.slice A n c] w fun e w' => e = .returned (.tuple #[.int .i64 (firstX t), .int .i64 (lastX t)]) ∧ Below w.heap.size w w' := by
  obtain ⟨h1, h2, h3⟩ := (tableS_iff t).1 hok
  have := ends_any lo A n c t w hx hn (by have := hn.out; omega) (by have := hn.out; unfold maxLen; omega)
  unfold firstX lastX
  rw [hn.out]
  exact this

set_option maxRecDepth 100000 in
set_option maxHeartbeats 1000000 in
theorem Value_any (lo : Nat) (A : Option Addr) (n c : Nat) (t : List R) (x : Int) (w : World) (hx : Ranges w lo A t) (hn : Aside (t.length = n)) (hl : n ≤ maxLen) :
    Calls Try.prog 59 #[.slice A n c, .int .i64 x] w fun e w' => e = .returned (RE (valueS t x)) ∧ Below w.heap.size w w' := by
  have hT := fun W (h : Below w.heap.size w W) => isTable_any lo A n c t W (hx.below h (Nat.le_refl _)) hn hl
  unfold valueS
  cases h0 : tableS t with
  | false =>
    rw [if_pos rfl]
    rw [h0] at hT
    clear hx h0
    go_enter Try.func59, Try.ntmps59
    go_wp2_with fail
    refine (hT _ ((by (try show Below _ _ _); repeat (first | (with_reducible refine Below.setCell ?_ (by first | omega | (simp <;> omega)) _) | (with_reducible refine Below.alloc ?_ (by first | omega | (simp <;> omega)) _) | (with_reducible refine Below.drew ?_) | (with_reducible exact Below.refl _ _) | (with_reducible exact Below.refl _ _) | (with_reducible refine below_call ?_ (by assumption) (by first | omega | (simp <;> omega))) | (with_reducible refine below_call ?_ (Drew.below (by assumption) _) (by first | omega | (simp <;> omega))))))).mono ?_
    rintro e w1 ⟨rfl, hb1⟩
    have hz1 := hb1.size
    try simp only [World.size_alloc, World.size_setCell, World.size_drew] at hz1
    have hc1_0 := fun o => hb1.cell (p := ⟨w.heap.size, o, none⟩) (by show w.heap.size < _; first | omega | (simp only [World.size_alloc, World.size_setCell, World.size_drew]; omega))
    have hf1_0 := fun o => hb1.frozen (p := ⟨w.heap.size, o, none⟩) (by show w.heap.size < _; first | omega | (simp only [World.size_alloc, World.size_setCell, World.size_drew]; omega))
    have hz1_0 : w.heap.size < w1.heap.size := by omega
    go_wp2
    refine bodyPost_ret (v := .tuple #[.agg #[.int .i64 0, .int .i64 0], .int .i64 2]) (by simp [results, Try.results59, go_sem, cell_set, hc1_0]) rfl ⟨rfl, (by (try show Below _ _ _); repeat (first | (with_reducible refine Below.setCell ?_ (by first | omega | (simp <;> omega)) _) | (with_reducible refine Below.alloc ?_ (by first | omega | (simp <;> omega)) _) | (with_reducible refine Below.drew ?_) | (with_reducible exact Below.refl _ _) | (with_reducible refine below_call ?_ (by assumption) (by first | omega | (simp <;> omega))) | (with_reducible refine below_call ?_ (Drew.below (by assumption) _) (by first | omega | (simp <;> omega)))))⟩
  | true =>
    rw [if_neg (by decide)]
    rw [h0] at hT
    have hE := fun W (h : Below w.heap.size w W) => ends_val lo A n c t W (hx.below h (Nat.le_refl _)) hn h0
    have hI := fun (A : Option Addr) (W : World) h => span_within (firstX t) (lastX t) 0 A 1 1 [x] W h rfl one_le
    cases h1 : valueIn t x with
    | false =>
      rw [if_pos rfl]
      unfold valueIn at h1
      rw [h1] at hI
      clear hx h0 h1
      go_enter Try.func59, Try.ntmps59
      go_wp2_with fail
      refine (hT _ ((by (try show Below _ _ _); repeat (first | (with_reducible refine Below.setCell ?_ (by first | omega | (simp <;> omega)) _) | (with_reducible refine Below.alloc ?_ (by first | omega | (simp <;> omega)) _) | (with_reducible refine Below.drew ?_) | (with_reducible exact Below.refl _ _) | (with_reducible exact Below.refl _ _) | (with_reducible refine below_call ?_ (by assumption) (by first | omega | (simp <;> omega))) | (with_reducible refine below_call ?_ (Drew.below (by assumption) _) (by first | omega | (simp <;> omega))))))).mono ?_
      rintro e w1 ⟨rfl, hb1⟩
      have hz1 := hb1.size
      try simp only [World.size_alloc, World.size_setCell, World.size_drew] at hz1
      have hc1_0 := fun o => hb1.cell (p := ⟨w.heap.size, o, none⟩) (by show w.heap.size < _; first | omega | (simp only [World.size_alloc, World.size_setCell, World.size_drew]; omega))
      have hf1_0 := fun o => hb1.frozen (p := ⟨w.heap.size, o, none⟩) (by show w.heap.size < _; first | omega | (simp only [World.size_alloc, World.size_setCell, World.size_drew]; omega))
      have hz1_0 : w.heap.size < w1.heap.size := by omega
      go_wp2_with fail
      refine (hE _ ((by (try show Below _ _ _); repeat (first | (with_reducible refine Below.setCell ?_ (by first | omega | (simp <;> omega)) _) | (with_reducible refine Below.alloc ?_ (by first | omega | (simp <;> omega)) _) | (with_reducible refine Below.drew ?_) | (with_reducible exact Below.refl _ _) | (with_reducible exact Below.refl _ _) | (with_reducible refine below_call ?_ (by assumption) (by first | omega | (simp <;> omega))) | (with_reducible refine below_call ?_ (Drew.below (by assumption) _) (by first | omega | (simp <;> omega))))))).mono ?_
      rintro e w2 ⟨rfl, hb2⟩
      have hz2 := hb2.size
      try simp only [World.size_alloc, World.size_setCell, World.size_drew] at hz2
      have hc2_0 := fun o => hb2.cell (p := ⟨w.heap.size, o, none⟩) (by show w.heap.size < _; first | omega | (simp only [World.size_alloc, World.size_setCell, World.size_drew]; omega))
      have hf2_0 := fun o => hb2.frozen (p := ⟨w.heap.size, o, none⟩) (by show w.heap.size < _; first | omega | (simp only [World.size_alloc, World.size_setCell, World.size_drew]; omega))
      have hz2_0 : w.heap.size < w2.heap.size := by omega
      go_wp2_with fail
      refine (hI _ _ (Ints.of1 (by simp [go_sem]) (by simp))).mono ?_
      rintro e w3 ⟨rfl, hb3⟩
      have hz3 := hb3.size
      try simp only [World.size_alloc, World.size_setCell, World.size_drew] at hz3
      have hc3_0 := fun o => hb3.cell (p := ⟨w.heap.size, o, none⟩) (by show w.heap.size < _; first | omega | (simp only [World.size_alloc, World.size_setCell, World.size_drew]; omega))
      have hf3_0 := fun o => hb3.frozen (p := ⟨w.heap.size, o, none⟩) (by show w.heap.size < _; first | omega | (simp only [World.size_alloc, World.size_setCell, World.size_drew]; omega))
      have hz3_0 : w.heap.size < w3.heap.size := by omega
      go_wp2
      refine bodyPost_ret (v := .tuple #[.agg #[.int .i64 0, .int .i64 0], .int .i64 3]) (by simp [results, Try.results59, go_sem, cell_set, hc1_0, hc2_0, hc3_0, hz1_0, hz2_0]) rfl ⟨rfl, (by (try show Below _ _ _); repeat (first | (with_reducible refine Below.setCell ?_ (by first | omega | (simp <;> omega)) _) | (with_reducible refine Below.alloc ?_ (by first | omega | (simp <;> omega)) _) | (with_reducible refine Below.drew ?_) | (with_reducible exact Below.refl _ _) | (with_reducible refine below_call ?_ (by assumption) (by first | omega | (simp <;> omega))) | (with_reducible refine below_call ?_ (Drew.below (by assumption) _) (by first | omega | (simp <;> omega)))))⟩
    | true =>
      rw [if_neg (by decide)]
      have hV := fun W (h : Below w.heap.size w W) => at_val lo A n c t x W (hx.below h (Nat.le_refl _)) hn h0 h1
      unfold valueIn at h1
      rw [h1] at hI
      generalize valS t x = v at hV ⊢
      obtain ⟨v0, v1⟩ := v
      simp only at hV
      clear hx h0 h1
      go_enter Try.func59, Try.ntmps59
      go_wp2_with fail
      refine (hT _ ((by (try show Below _ _ _); repeat (first | (with_reducible refine Below.setCell ?_ (by first | omega | (simp <;> omega)) _) | (with_reducible refine Below.alloc ?_ (by first | omega | (simp <;> omega)) _) | (with_reducible refine Below.drew ?_) | (with_reducible exact Below.refl _ _) | (with_reducible exact Below.refl _ _) | (with_reducible refine below_call ?_ (by assumption) (by first | omega | (simp <;> omega))) | (with_reducible refine below_call ?_ (Drew.below (by assumption) _) (by first | omega | (simp <;> omega))))))).mono ?_
      rintro e w1 ⟨rfl, hb1⟩
      have hz1 := hb1.size
      try simp only [World.size_alloc, World.size_setCell, World.size_drew] at hz1
      have hc1_0 := fun o => hb1.cell (p := ⟨w.heap.size, o, none⟩) (by show w.heap.size < _; first | omega | (simp only [World.size_alloc, World.size_setCell, World.size_drew]; omega))
      have hf1_0 := fun o => hb1.frozen (p := ⟨w.heap.size, o, none⟩) (by show w.heap.size < _; first | omega | (simp only [World.size_alloc, World.size_setCell, World.size_drew]; omega))
      have hz1_0 : w.heap.size < w1.heap.size := by omega
      go_wp2_with fail
      refine (hE _ ((by (try show Below _ _ _); repeat (first | (with_reducible refine Below.setCell ?_ (by first | omega | (simp <;> omega)) _) | (with_reducible refine Below.alloc ?_ (by first | omega | (simp <;> omega)) _) | (with_reducible refine Below.drew ?_) | (with_reducible exact Below.refl _ _) | (with_reducible exact Below.refl _ _) | (with_reducible refine below_call ?_ (by assumption) (by first | omega | (simp <;> omega))) | (with_reducible refine below_call ?_ (Drew.below (by assumption) _) (by first | omega | (simp <;> omega))))))).mono ?_
      rintro e w2 ⟨rfl, hb2⟩
      have hz2 := hb2.size
      try simp only [World.size_alloc, World.size_setCell, World.size_drew] at hz2
      have hc2_0 := fun o => hb2.cell (p := ⟨w.heap.size, o, none⟩) (by show w.heap.size < _; first | omega | (simp only [World.size_alloc, World.size_setCell, World.size_drew]; omega))
      have hf2_0 := fun o => hb2.frozen (p := ⟨w.heap.size, o, none⟩) (by show w.heap.size < _; first | omega | (simp only [World.size_alloc, World.size_setCell, World.size_drew]; omega))
      have hz2_0 : w.heap.size < w2.heap.size := by omega
      go_wp2_with fail
      refine (hI _ _ (Ints.of1 (by simp [go_sem]) (by simp))).mono ?_
      rintro e w3 ⟨rfl, hb3⟩
      have hz3 := hb3.size
      try simp only [World.size_alloc, World.size_setCell, World.size_drew] at hz3
      have hc3_0 := fun o => hb3.cell (p := ⟨w.heap.size, o, none⟩) (by show w.heap.size < _; first | omega | (simp only [World.size_alloc, World.size_setCell, World.size_drew]; omega))
      have hf3_0 := fun o => hb3.frozen (p := ⟨w.heap.size, o, none⟩) (by show w.heap.size < _; first | omega | (simp only [World.size_alloc, World.size_setCell, World.size_drew]; omega))
      have hz3_0 : w.heap.size < w3.heap.size := by omega
      go_wp2_with fail
      refine (hV _ ((by (try show Below _ _ _); repeat (first | (with_reducible refine Below.setCell ?_ (by first | omega | (simp <;> omega)) _) | (with_reducible refine Below.alloc ?_ (by first | omega | (simp <;> omega)) _) | (with_reducible refine Below.drew ?_) | (with_reducible exact Below.refl _ _) | (with_reducible exact Below.refl _ _) | (with_reducible refine below_call ?_ (by assumption) (by first | omega | (simp <;> omega))) | (with_reducible refine below_call ?_ (Drew.below (by assumption) _) (by first | omega | (simp <;> omega))))))).mono ?_
      rintro e w4 ⟨rfl, hb4⟩
      have hz4 := hb4.size
      try simp only [World.size_alloc, World.size_setCell, World.size_drew] at hz4
      have hc4_0 := fun o => hb4.cell (p := ⟨w.heap.size, o, none⟩) (by show w.heap.size < _; first | omega | (simp only [World.size_alloc, World.size_setCell, World.size_drew]; omega))
      have hf4_0 := fun o => hb4.frozen (p := ⟨w.heap.size, o, none⟩) (by show w.heap.size < _; first | omega | (simp only [World.size_alloc, World.size_setCell, World.size_drew]; omega))
      have hz4_0 : w.heap.size < w4.heap.size := by omega
      go_wp2
      refine bodyPost_ret (v := .tuple #[.agg #[.int .i64 v0, .int .i64 v1], .int .i64 0]) (by simp [results, Try.results59, go_sem, cell_set, hc1_0, hc2_0, hc3_0, hc4_0, hz1_0, hz2_0, hz3_0]) rfl ⟨rfl, (by (try show Below _ _ _); repeat (first | (with_reducible refine Below.setCell ?_ (by first | omega | (simp <;> omega)) _) | (with_reducible refine Below.alloc ?_ (by first | omega | (simp <;> omega)) _) | (with_reducible refine Below.drew ?_) | (with_reducible exact Below.refl _ _) | (with_reducible refine below_call ?_ (by assumption) (by first | omega | (simp <;> omega))) | (with_reducible refine below_call ?_ (Drew.below (by assumption) _) (by first | omega | (simp <;> omega)))))⟩

end Go.Proofs.Ytfohdafijfjefaa
