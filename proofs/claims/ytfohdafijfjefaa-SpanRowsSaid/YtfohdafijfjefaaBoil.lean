/- Contracts: span.liquid.spare, Boil, Thin. -/
import Derived.Test.YtfohdafijfjefaaSap1
import Derived.Deep.QuietTactic
import Derived.BigQuiet
set_option linter.unusedSimpArgs false
set_option linter.unusedVariables false
namespace Go.Proofs.Ytfohdafijfjefaa
open Go.RowKit Go.Shelf

/-- by how much the mass differs -/
def spareS (s : R) (b : Int) : Int × Int :=
  if okS s = false then (0, 2) else if btw 1 10000 [b] = false then (0, 3) else if s.hi = 0 then (0, 7) else (s.hi * 10000 / b - (s.lo + s.hi), 0)
def IE (x : Int × Int) : Value := .tuple #[.int .i64 x.1, .int .i64 x.2]

theorem spare_div (s b : Int) (h0 : 0 ≤ s) (h1 : s ≤ 1000000000000) (hb : 1 ≤ b) : 0 ≤ s * 10000 / b ∧ s * 10000 / b ≤ 10000000000000000 := by
  refine ⟨Int.ediv_nonneg (by omega) (by omega), ?_⟩
  have := Int.ediv_le_self (b := b) (a := s * 10000) (by omega)
  omega

set_option maxHeartbeats 1000000 in
theorem spare_any (a s b : Int) (w : World) :
    Calls Try.prog 100 #[.agg #[.int .i64 a, .int .i64 s], .int .i64 b] w fun e w' => e = .returned (IE (spareS ⟨a, s⟩ b)) ∧ Below w.heap.size w w' := by
  have hok := fun W => ok_any a s W
  have hI := fun (A : Option Addr) (W : World) h => span_within 1 10000 0 A 1 1 [b] W h rfl one_le
  unfold spareS IE
  cases h0 : okS ⟨a, s⟩ with
  | false =>
    rw [h0] at hok
    rw [if_pos rfl]
    go_enter Try.func100, Try.ntmps100
    go_wp2_with fail
    refine (hok _).mono ?_
    rintro e w1 ⟨rfl, hb1⟩
    have hz1 := hb1.size
    try simp only [World.size_alloc, World.size_setCell, World.size_drew] at hz1
    have hc1_0 := fun o => hb1.cell (p := ⟨w.heap.size, o, none⟩) (by show w.heap.size < _; first | omega | (simp only [World.size_alloc, World.size_setCell, World.size_drew]; omega))
    have hf1_0 := fun o => hb1.frozen (p := ⟨w.heap.size, o, none⟩) (by show w.heap.size < _; first | omega | (simp only [World.size_alloc, World.size_setCell, World.size_drew]; omega))
    have hz1_0 : w.heap.size < w1.heap.size := by omega
    go_wp2
    go_ret2
    exact ⟨rfl, (by (try show Below _ _ _); repeat (first | (with_reducible refine Below.setCell ?_ (by first | omega | (simp <;> omega)) _) | (with_reducible refine Below.alloc ?_ (by first | omega | (simp <;> omega)) _) | (with_reducible refine Below.drew ?_) | (with_reducible exact Below.refl _ _) | (with_reducible refine below_call ?_ (by assumption) (by first | omega | (simp <;> omega))) | (with_reducible refine below_call ?_ (Drew.below (by assumption) _) (by first | omega | (simp <;> omega)))))⟩
  | true =>
    obtain ⟨k1, k2, k3, k4⟩ := (okS_iff _).1 h0
    simp only at k1 k2 k3 k4
    rw [h0] at hok
    rw [if_neg (by decide)]
    cases h1 : btw 1 10000 [b] with
    | false =>
      rw [h1] at hI
      rw [if_pos rfl]
      go_enter Try.func100, Try.ntmps100
      go_wp2_with fail
      refine (hok _).mono ?_
      rintro e w1 ⟨rfl, hb1⟩
      have hz1 := hb1.size
      try simp only [World.size_alloc, World.size_setCell, World.size_drew] at hz1
      have hc1_0 := fun o => hb1.cell (p := ⟨w.heap.size, o, none⟩) (by show w.heap.size < _; first | omega | (simp only [World.size_alloc, World.size_setCell, World.size_drew]; omega))
      have hf1_0 := fun o => hb1.frozen (p := ⟨w.heap.size, o, none⟩) (by show w.heap.size < _; first | omega | (simp only [World.size_alloc, World.size_setCell, World.size_drew]; omega))
      have hz1_0 : w.heap.size < w1.heap.size := by omega
      go_wp2_with fail
      refine (hI _ _ (Ints.of1 (by simp [go_sem]) (by simp))).mono ?_
      rintro e w2 ⟨rfl, hb2⟩
      have hz2 := hb2.size
      try simp only [World.size_alloc, World.size_setCell, World.size_drew] at hz2
      have hc2_0 := fun o => hb2.cell (p := ⟨w.heap.size, o, none⟩) (by show w.heap.size < _; first | omega | (simp only [World.size_alloc, World.size_setCell, World.size_drew]; omega))
      have hf2_0 := fun o => hb2.frozen (p := ⟨w.heap.size, o, none⟩) (by show w.heap.size < _; first | omega | (simp only [World.size_alloc, World.size_setCell, World.size_drew]; omega))
      have hz2_0 : w.heap.size < w2.heap.size := by omega
      go_wp2
      go_ret2
      exact ⟨rfl, (by (try show Below _ _ _); repeat (first | (with_reducible refine Below.setCell ?_ (by first | omega | (simp <;> omega)) _) | (with_reducible refine Below.alloc ?_ (by first | omega | (simp <;> omega)) _) | (with_reducible refine Below.drew ?_) | (with_reducible exact Below.refl _ _) | (with_reducible refine below_call ?_ (by assumption) (by first | omega | (simp <;> omega))) | (with_reducible refine below_call ?_ (Drew.below (by assumption) _) (by first | omega | (simp <;> omega)))))⟩
    | true =>
      have k5 := (btw1 _ _ _).1 h1
      obtain ⟨k5, k6⟩ := k5
      rw [h1] at hI
      rw [if_neg (by decide)]
      by_cases h2 : s = 0
      · subst h2
        rw [if_pos rfl]
        go_enter Try.func100, Try.ntmps100
        go_wp2_with fail
        refine (hok _).mono ?_
        rintro e w1 ⟨rfl, hb1⟩
        have hz1 := hb1.size
        try simp only [World.size_alloc, World.size_setCell, World.size_drew] at hz1
        have hc1_0 := fun o => hb1.cell (p := ⟨w.heap.size, o, none⟩) (by show w.heap.size < _; first | omega | (simp only [World.size_alloc, World.size_setCell, World.size_drew]; omega))
        have hf1_0 := fun o => hb1.frozen (p := ⟨w.heap.size, o, none⟩) (by show w.heap.size < _; first | omega | (simp only [World.size_alloc, World.size_setCell, World.size_drew]; omega))
        have hz1_0 : w.heap.size < w1.heap.size := by omega
        go_wp2_with fail
        refine (hI _ _ (Ints.of1 (by simp [go_sem]) (by simp))).mono ?_
        rintro e w2 ⟨rfl, hb2⟩
        have hz2 := hb2.size
        try simp only [World.size_alloc, World.size_setCell, World.size_drew] at hz2
        have hc2_0 := fun o => hb2.cell (p := ⟨w.heap.size, o, none⟩) (by show w.heap.size < _; first | omega | (simp only [World.size_alloc, World.size_setCell, World.size_drew]; omega))
        have hf2_0 := fun o => hb2.frozen (p := ⟨w.heap.size, o, none⟩) (by show w.heap.size < _; first | omega | (simp only [World.size_alloc, World.size_setCell, World.size_drew]; omega))
        have hz2_0 : w.heap.size < w2.heap.size := by omega
        go_wp2
        go_ret2
        exact ⟨rfl, (by (try show Below _ _ _); repeat (first | (with_reducible refine Below.setCell ?_ (by first | omega | (simp <;> omega)) _) | (with_reducible refine Below.alloc ?_ (by first | omega | (simp <;> omega)) _) | (with_reducible refine Below.drew ?_) | (with_reducible exact Below.refl _ _) | (with_reducible refine below_call ?_ (by assumption) (by first | omega | (simp <;> omega))) | (with_reducible refine below_call ?_ (Drew.below (by assumption) _) (by first | omega | (simp <;> omega)))))⟩
      · rw [if_neg h2]
        have h2b : (s == 0) = false := by rw [beq_eq_false_iff_ne]; exact h2
        have hmass := fun W => mass_any a s W (by omega)
        have hdv := spare_div s b k3 k4 k5
        have hwr : IntKind.i64.wrap (s * 10000 / b - (a + s)) = s * 10000 / b - (a + s) := by rw [IntKind.wrap_i64]; omega
        clear h2
        go_enter Try.func100, Try.ntmps100
        go_wp2_with fail
        refine (hok _).mono ?_
        rintro e w1 ⟨rfl, hb1⟩
        have hz1 := hb1.size
        try simp only [World.size_alloc, World.size_setCell, World.size_drew] at hz1
        have hc1_0 := fun o => hb1.cell (p := ⟨w.heap.size, o, none⟩) (by show w.heap.size < _; first | omega | (simp only [World.size_alloc, World.size_setCell, World.size_drew]; omega))
        have hf1_0 := fun o => hb1.frozen (p := ⟨w.heap.size, o, none⟩) (by show w.heap.size < _; first | omega | (simp only [World.size_alloc, World.size_setCell, World.size_drew]; omega))
        have hz1_0 : w.heap.size < w1.heap.size := by omega
        go_wp2_with fail
        refine (hI _ _ (Ints.of1 (by simp [go_sem]) (by simp))).mono ?_
        rintro e w2 ⟨rfl, hb2⟩
        have hz2 := hb2.size
        try simp only [World.size_alloc, World.size_setCell, World.size_drew] at hz2
        have hc2_0 := fun o => hb2.cell (p := ⟨w.heap.size, o, none⟩) (by show w.heap.size < _; first | omega | (simp only [World.size_alloc, World.size_setCell, World.size_drew]; omega))
        have hf2_0 := fun o => hb2.frozen (p := ⟨w.heap.size, o, none⟩) (by show w.heap.size < _; first | omega | (simp only [World.size_alloc, World.size_setCell, World.size_drew]; omega))
        have hz2_0 : w.heap.size < w2.heap.size := by omega
        go_wp2_with fail
        go_region_with (first | (go_at_call 98; refine (hmass _).mono ?_; rintro e w3 ⟨rfl, hx3⟩; have hb3 : Below w2.heap.size w2 w3 := ⟨hx3.os, hx3.tape, hx3.output, hx3.size, hx3.block⟩; have hz3 := hb3.size; (try simp only [World.size_alloc, World.size_setCell, World.size_drew] at hz3); have hc3_0 := fun o => hb3.cell (p := ⟨w.heap.size, o, none⟩) (by show w.heap.size < _; first | omega | (simp only [World.size_alloc, World.size_setCell, World.size_drew]; omega)); have hf3_0 := fun o => hb3.frozen (p := ⟨w.heap.size, o, none⟩) (by show w.heap.size < _; first | omega | (simp only [World.size_alloc, World.size_setCell, World.size_drew]; omega)); have hz3_0 : w.heap.size < w3.heap.size := (by omega)))
        all_goals
          go_wp2
          go_simp
          go_ret2
          exact ⟨rfl, (by (try show Below _ _ _); repeat (first | (with_reducible refine Below.setCell ?_ (by first | omega | (simp <;> omega)) _) | (with_reducible refine Below.alloc ?_ (by first | omega | (simp <;> omega)) _) | (with_reducible refine Below.drew ?_) | (with_reducible exact Below.refl _ _) | (with_reducible refine below_call ?_ (by assumption) (by first | omega | (simp <;> omega))) | (with_reducible refine below_call ?_ (Drew.below (by assumption) _) (by first | omega | (simp <;> omega)))))⟩

/-- how much must go off -/
def boilS (s : R) (b : Int) : Int × Int := (max 0 (-(spareS s b).1), (spareS s b).2)

theorem spareS_bound (s : R) (b : Int) : -2000000000001 ≤ (spareS s b).1 ∧ (spareS s b).1 ≤ 10000000000000000 := by
  unfold spareS
  cases h0 : okS s with
  | false => simp
  | true =>
    obtain ⟨k1, k2, k3, k4⟩ := (okS_iff _).1 h0
    rw [if_neg (by decide)]
    cases h1 : btw 1 10000 [b] with
    | false => simp
    | true =>
      obtain ⟨k5, k6⟩ := (btw1 _ _ _).1 h1
      rw [if_neg (by decide)]
      by_cases h2 : s.hi = 0
      · rw [if_pos h2]; simp
      · rw [if_neg h2]
        have := spare_div s.hi b k3 k4 k5
        simp only
        omega

set_option maxHeartbeats 1000000 in
theorem Boil_any (a s b : Int) (w : World) :
    Calls Try.prog 25 #[.agg #[.int .i64 a, .int .i64 s], .int .i64 b] w fun e w' => e = .returned (IE (boilS ⟨a, s⟩ b)) ∧ Below w.heap.size w w' := by
  have hS := fun W => spare_any a s b W
  have hbd := spareS_bound ⟨a, s⟩ b
  have hm1 : 0 ≤ (spareS ⟨a, s⟩ b).1 → max 0 (-(spareS ⟨a, s⟩ b).1) = 0 := fun h => by omega
  have hm2 : ¬ 0 ≤ (spareS ⟨a, s⟩ b).1 → max 0 (-(spareS ⟨a, s⟩ b).1) = -(spareS ⟨a, s⟩ b).1 := fun h => by omega
  unfold boilS
  unfold IE at hS ⊢
  simp only
  generalize max 0 (-(spareS ⟨a, s⟩ b).1) = m at hm1 hm2 ⊢
  generalize (spareS ⟨a, s⟩ b).1 = x at hS hbd hm1 hm2
  generalize (spareS ⟨a, s⟩ b).2 = er at hS ⊢
  by_cases hx : 0 ≤ x
  · obtain rfl := hm1 hx
    clear hm1 hm2
    go_enter Try.func25, Try.ntmps25
    go_wp2_with fail
    refine (hS _).mono ?_
    rintro e w1 ⟨rfl, hb1⟩
    have hz1 := hb1.size
    try simp only [World.size_alloc, World.size_setCell, World.size_drew] at hz1
    have hc1_0 := fun o => hb1.cell (p := ⟨w.heap.size, o, none⟩) (by show w.heap.size < _; first | omega | (simp only [World.size_alloc, World.size_setCell, World.size_drew]; omega))
    have hf1_0 := fun o => hb1.frozen (p := ⟨w.heap.size, o, none⟩) (by show w.heap.size < _; first | omega | (simp only [World.size_alloc, World.size_setCell, World.size_drew]; omega))
    have hz1_0 : w.heap.size < w1.heap.size := by omega
    go_wp2
    go_ret2
    exact ⟨rfl, (by (try show Below _ _ _); repeat (first | (with_reducible refine Below.setCell ?_ (by first | omega | (simp <;> omega)) _) | (with_reducible refine Below.alloc ?_ (by first | omega | (simp <;> omega)) _) | (with_reducible refine Below.drew ?_) | (with_reducible exact Below.refl _ _) | (with_reducible refine below_call ?_ (by assumption) (by first | omega | (simp <;> omega))) | (with_reducible refine below_call ?_ (Drew.below (by assumption) _) (by first | omega | (simp <;> omega)))))⟩
  · obtain rfl := hm2 hx
    clear hm1 hm2
    go_enter Try.func25, Try.ntmps25
    go_wp2_with fail
    refine (hS _).mono ?_
    rintro e w1 ⟨rfl, hb1⟩
    have hz1 := hb1.size
    try simp only [World.size_alloc, World.size_setCell, World.size_drew] at hz1
    have hc1_0 := fun o => hb1.cell (p := ⟨w.heap.size, o, none⟩) (by show w.heap.size < _; first | omega | (simp only [World.size_alloc, World.size_setCell, World.size_drew]; omega))
    have hf1_0 := fun o => hb1.frozen (p := ⟨w.heap.size, o, none⟩) (by show w.heap.size < _; first | omega | (simp only [World.size_alloc, World.size_setCell, World.size_drew]; omega))
    have hz1_0 : w.heap.size < w1.heap.size := by omega
    go_wp2
    go_ret2
    exact ⟨rfl, (by (try show Below _ _ _); repeat (first | (with_reducible refine Below.setCell ?_ (by first | omega | (simp <;> omega)) _) | (with_reducible refine Below.alloc ?_ (by first | omega | (simp <;> omega)) _) | (with_reducible refine Below.drew ?_) | (with_reducible exact Below.refl _ _) | (with_reducible refine below_call ?_ (by assumption) (by first | omega | (simp <;> omega))) | (with_reducible refine below_call ?_ (Drew.below (by assumption) _) (by first | omega | (simp <;> omega)))))⟩

/-- how much can be added -/
def thinS (s : R) (b : Int) : Int × Int :=
  if (spareS s b).2 = 0 then (if (spareS s b).1 < 0 then (0, 7) else if 1000000000000 < s.lo + (spareS s b).1 then (0, 10) else ((spareS s b).1, 0)) else (0, (spareS s b).2)

theorem spareS_ok (s : R) (b : Int) (h : (spareS s b).2 = 0) : okS s = true := by
  unfold spareS at h
  cases h0 : okS s with
  | false => rw [h0, if_pos rfl] at h; simp at h
  | true => rfl

set_option maxHeartbeats 1000000 in
theorem Thin_any (a s b : Int) (w : World) :
    Calls Try.prog 27 #[.agg #[.int .i64 a, .int .i64 s], .int .i64 b] w fun e w' => e = .returned (IE (thinS ⟨a, s⟩ b)) ∧ Below w.heap.size w w' := by
  have hS := fun W => spare_any a s b W
  have hbd := spareS_bound ⟨a, s⟩ b
  have hok := spareS_ok ⟨a, s⟩ b
  unfold thinS
  unfold IE at hS ⊢
  simp only
  generalize (spareS ⟨a, s⟩ b).1 = x at hS hbd ⊢
  generalize (spareS ⟨a, s⟩ b).2 = er at hS hok ⊢
  by_cases h0 : er = 0
  · obtain ⟨k1, k2, k3, k4⟩ := (okS_iff _).1 (hok h0)
    simp only at k1 k2 k3 k4
    subst h0
    clear hok
    rw [if_pos rfl]
    by_cases h1 : x < 0
    · rw [if_pos h1]
      go_enter Try.func27, Try.ntmps27
      go_wp2_with fail
      refine (hS _).mono ?_
      rintro e w1 ⟨rfl, hb1⟩
      have hz1 := hb1.size
      try simp only [World.size_alloc, World.size_setCell, World.size_drew] at hz1
      have hc1_0 := fun o => hb1.cell (p := ⟨w.heap.size, o, none⟩) (by show w.heap.size < _; first | omega | (simp only [World.size_alloc, World.size_setCell, World.size_drew]; omega))
      have hf1_0 := fun o => hb1.frozen (p := ⟨w.heap.size, o, none⟩) (by show w.heap.size < _; first | omega | (simp only [World.size_alloc, World.size_setCell, World.size_drew]; omega))
      have hz1_0 : w.heap.size < w1.heap.size := by omega
      go_wp2
      go_ret2
      exact ⟨rfl, (by (try show Below _ _ _); repeat (first | (with_reducible refine Below.setCell ?_ (by first | omega | (simp <;> omega)) _) | (with_reducible refine Below.alloc ?_ (by first | omega | (simp <;> omega)) _) | (with_reducible refine Below.drew ?_) | (with_reducible exact Below.refl _ _) | (with_reducible refine below_call ?_ (by assumption) (by first | omega | (simp <;> omega))) | (with_reducible refine below_call ?_ (Drew.below (by assumption) _) (by first | omega | (simp <;> omega)))))⟩
    · rw [if_neg h1]
      by_cases h2 : 1000000000000 < a + x
      · rw [if_pos h2]
        go_enter Try.func27, Try.ntmps27
        go_wp2_with fail
        refine (hS _).mono ?_
        rintro e w1 ⟨rfl, hb1⟩
        have hz1 := hb1.size
        try simp only [World.size_alloc, World.size_setCell, World.size_drew] at hz1
        have hc1_0 := fun o => hb1.cell (p := ⟨w.heap.size, o, none⟩) (by show w.heap.size < _; first | omega | (simp only [World.size_alloc, World.size_setCell, World.size_drew]; omega))
        have hf1_0 := fun o => hb1.frozen (p := ⟨w.heap.size, o, none⟩) (by show w.heap.size < _; first | omega | (simp only [World.size_alloc, World.size_setCell, World.size_drew]; omega))
        have hz1_0 : w.heap.size < w1.heap.size := by omega
        go_wp2
        go_ret2
        exact ⟨rfl, (by (try show Below _ _ _); repeat (first | (with_reducible refine Below.setCell ?_ (by first | omega | (simp <;> omega)) _) | (with_reducible refine Below.alloc ?_ (by first | omega | (simp <;> omega)) _) | (with_reducible refine Below.drew ?_) | (with_reducible exact Below.refl _ _) | (with_reducible refine below_call ?_ (by assumption) (by first | omega | (simp <;> omega))) | (with_reducible refine below_call ?_ (Drew.below (by assumption) _) (by first | omega | (simp <;> omega)))))⟩
      · rw [if_neg h2]
        go_enter Try.func27, Try.ntmps27
        go_wp2_with fail
        refine (hS _).mono ?_
        rintro e w1 ⟨rfl, hb1⟩
        have hz1 := hb1.size
        try simp only [World.size_alloc, World.size_setCell, World.size_drew] at hz1
        have hc1_0 := fun o => hb1.cell (p := ⟨w.heap.size, o, none⟩) (by show w.heap.size < _; first | omega | (simp only [World.size_alloc, World.size_setCell, World.size_drew]; omega))
        have hf1_0 := fun o => hb1.frozen (p := ⟨w.heap.size, o, none⟩) (by show w.heap.size < _; first | omega | (simp only [World.size_alloc, World.size_setCell, World.size_drew]; omega))
        have hz1_0 : w.heap.size < w1.heap.size := by omega
        go_wp2
        go_ret2
        exact ⟨rfl, (by (try show Below _ _ _); repeat (first | (with_reducible refine Below.setCell ?_ (by first | omega | (simp <;> omega)) _) | (with_reducible refine Below.alloc ?_ (by first | omega | (simp <;> omega)) _) | (with_reducible refine Below.drew ?_) | (with_reducible exact Below.refl _ _) | (with_reducible refine below_call ?_ (by assumption) (by first | omega | (simp <;> omega))) | (with_reducible refine below_call ?_ (Drew.below (by assumption) _) (by first | omega | (simp <;> omega)))))⟩
  · rw [if_neg h0]
    have h0b : (er != 0) = true := by rw [bne_iff_ne]; exact h0
    clear h0 hok
    go_enter Try.func27, Try.ntmps27
    go_wp2_with fail
    refine (hS _).mono ?_
    rintro e w1 ⟨rfl, hb1⟩
    have hz1 := hb1.size
    try simp only [World.size_alloc, World.size_setCell, World.size_drew] at hz1
    have hc1_0 := fun o => hb1.cell (p := ⟨w.heap.size, o, none⟩) (by show w.heap.size < _; first | omega | (simp only [World.size_alloc, World.size_setCell, World.size_drew]; omega))
    have hf1_0 := fun o => hb1.frozen (p := ⟨w.heap.size, o, none⟩) (by show w.heap.size < _; first | omega | (simp only [World.size_alloc, World.size_setCell, World.size_drew]; omega))
    have hz1_0 : w.heap.size < w1.heap.size := by omega
    go_wp2
    go_ret2
    exact ⟨rfl, (by (try show Below _ _ _); repeat (first | (with_reducible refine Below.setCell ?_ (by first | omega | (simp <;> omega)) _) | (with_reducible refine Below.alloc ?_ (by first | omega | (simp <;> omega)) _) | (with_reducible refine Below.drew ?_) | (with_reducible exact Below.refl _ _) | (with_reducible refine below_call ?_ (by assumption) (by first | omega | (simp <;> omega))) | (with_reducible refine below_call ?_ (Drew.below (by assumption) _) (by first | omega | (simp <;> omega)))))⟩

end Go.Proofs.Ytfohdafijfjefaa
