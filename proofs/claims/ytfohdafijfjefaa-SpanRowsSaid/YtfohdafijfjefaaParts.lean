/- Contracts: fractions (span.divisor, isPart, lowest, MakePart, ComparePart, AddPart, MulPart, Of). A part is a pair of numbers, as a range is. -/
import Derived.Test.YtfohdafijfjefaaSpan1
import Derived.Test.YtfohdafijfjefaaMM
import Derived.Deep.QuietTactic
import Derived.BigQuiet
import Derived.Outline
set_option linter.unusedSimpArgs false
set_option linter.unusedVariables false
namespace Go.Proofs.Ytfohdafijfjefaa
open Go.RowKit Go.Shelf

def divS (a b : Int) : Int := (Int.gcd a b : Int)

theorem gcd_tmod (x y : Int) (h : y ≠ 0) : Int.gcd y (x.tmod y) = Int.gcd x y := by
  have e : x = y * (x.tdiv y) + x.tmod y := (Int.mul_tdiv_add_tmod x y).symm
  rw [Int.gcd_comm x y]
  conv => rhs; rw [e]
  rw [Int.gcd_mul_left_add_right]

theorem tmod_abs (x y : Int) (h : y ≠ 0) : (x.tmod y).natAbs < y.natAbs := by
  rw [Int.natAbs_tmod]
  exact Nat.mod_lt _ (by omega)

theorem divS_le (a b : Int) (h : b ≠ 0) : 1 ≤ divS a b ∧ divS a b ≤ b.natAbs := by
  unfold divS
  have h1 := Int.gcd_pos_of_ne_zero_right a h
  have h2 : Int.gcd a b ∣ b.natAbs := Int.gcd_dvd_natAbs_right a b
  have := Nat.le_of_dvd (by omega) h2
  omega

set_option maxHeartbeats 1000000 in
theorem divisor_any (a b : Int) (ha : -9223372036854775807 ≤ a ∧ a ≤ 9223372036854775807) (hb : -9223372036854775807 ≤ b ∧ b ≤ 9223372036854775807) (w : World) :
    Calls Try.prog 141 #[.int .i64 a, .int .i64 b] w fun e w' => e = .returned (.int .i64 (divS a b)) ∧ Below w.heap.size w w' := by
  go_enter Try.func141, Try.ntmps141
  go_wp2
  go_loopg [0, 1] (b.natAbs) (fun gg s0 s1 wr => ∃ x y : Int, s0 = .int .i64 x ∧ s1 = .int .i64 y ∧ y.natAbs ≤ gg ∧ Aside (Int.gcd x y = Int.gcd a b) ∧ (-9223372036854775807 ≤ x ∧ x ≤ 9223372036854775807) ∧ (-9223372036854775807 ≤ y ∧ y ≤ 9223372036854775807) ∧ Aside (Below w.heap.size w wr))
  case atStart => exact ⟨a, b, rfl, rfl, Nat.le_refl _, rfl, ha, hb, Below.refl _ _⟩
  case round =>
    obtain ⟨x, y, rfl, rfl, hg, hgc, hx, hy, hd⟩ := hrel
    by_cases h0 : y = 0
    · have hr : divS a b = (x.natAbs : Int) := by unfold divS; rw [← hgc.out, h0, Int.gcd_zero_right]
      have hr2 : (x.natAbs : Int) = max x (-x) := by omega
      rw [hr2] at hr
      have Hr := Lib.hid hr
      have h0b : (y != 0) = false := by rw [h0]; rfl
      clear hr hr2 h0 hgc
      go_wp2
      go_ret
      exact ⟨by rw [Hr.out]; rfl, hd.out⟩
    · have h0b : (y != 0) = true := by rw [bne_iff_ne]; exact h0
      have h0c : (y == 0) = false := by rw [beq_eq_false_iff_ne]; exact h0
      have hg2 := Lib.hid (gcd_tmod x y h0)
      have hab := tmod_abs x y h0
      clear h0
      have hb2 : -9223372036854775807 ≤ x.tmod y ∧ x.tmod y ≤ 9223372036854775807 := by omega
      go_wp2_with fail
      go_quiet (fail)
      go_wp2
      go_roundg ((x.tmod y).natAbs)
      case measure => omega
      case rel =>
        exact ⟨y, _, rfl, rfl, Nat.le_refl _, hg2.out.trans hgc.out, hy, hb2, below_drewN' hd.out _⟩

/-- a valid part -/
def okP (p : R) : Bool := btw (-1000000000) 1000000000 [p.lo] && (btw 1 1000000000 [p.hi] && decide (divS p.lo p.hi = 1))
theorem okP_iff (p : R) : okP p = true ↔ (-1000000000 ≤ p.lo ∧ p.lo ≤ 1000000000) ∧ (1 ≤ p.hi ∧ p.hi ≤ 1000000000) ∧ divS p.lo p.hi = 1 := by
  unfold okP
  rw [Bool.and_eq_true, Bool.and_eq_true, btw1, btw1, decide_eq_true_eq]

set_option maxHeartbeats 1000000 in
theorem isPart_lit (a b : Int) (w : World) :
    Calls Try.prog 143 #[.agg #[.int .i64 a, .int .i64 b]] w fun e w' => e = .returned (.bool (!okP ⟨a, b⟩)) ∧ Below w.heap.size w w' := by
  have h1 := fun (A : Option Addr) (W : World) h => span_within (-1000000000) 1000000000 0 A 1 1 [a] W h rfl one_le
  have h2 := fun (A : Option Addr) (W : World) h => span_within 1 1000000000 0 A 1 1 [b] W h rfl one_le
  unfold okP
  simp only
  cases e1 : btw (-1000000000) 1000000000 [a] with
  | false =>
    rw [e1] at h1
    go_enter Try.func143, Try.ntmps143
    go_wp2_with fail
    refine (h1 _ _ (Ints.of1 (by simp [go_sem]) (by simp))).mono ?_
    rintro e w1 ⟨rfl, hb1⟩
    have hz1 := hb1.size
    try simp only [World.size_alloc, World.size_setCell, World.size_drew] at hz1
    have hc1_0 := fun o => hb1.cell (p := ⟨w.heap.size, o, none⟩) (by show w.heap.size < _; first | omega | (simp only [World.size_alloc, World.size_setCell, World.size_drew]; omega))
    have hf1_0 := fun o => hb1.frozen (p := ⟨w.heap.size, o, none⟩) (by show w.heap.size < _; first | omega | (simp only [World.size_alloc, World.size_setCell, World.size_drew]; omega))
    have hz1_0 : w.heap.size < w1.heap.size := by omega
    go_wp2
    go_ret
    exact ⟨rfl, (by (try show Below _ _ _); repeat (first | (with_reducible refine Below.setCell ?_ (by first | omega | (simp <;> omega)) _) | (with_reducible refine Below.alloc ?_ (by first | omega | (simp <;> omega)) _) | (with_reducible refine Below.drew ?_) | (with_reducible exact Below.refl _ _) | (with_reducible refine below_call ?_ (by assumption) (by first | omega | (simp <;> omega))) | (with_reducible refine below_call ?_ (Drew.below (by assumption) _) (by first | omega | (simp <;> omega)))))⟩
  | true =>
    rw [e1] at h1
    cases e2 : btw 1 1000000000 [b] with
    | false =>
      rw [e2] at h2
      go_enter Try.func143, Try.ntmps143
      go_wp2_with fail
      refine (h1 _ _ (Ints.of1 (by simp [go_sem]) (by simp))).mono ?_
      rintro e w1 ⟨rfl, hb1⟩
      have hz1 := hb1.size
      try simp only [World.size_alloc, World.size_setCell, World.size_drew] at hz1
      have hc1_0 := fun o => hb1.cell (p := ⟨w.heap.size, o, none⟩) (by show w.heap.size < _; first | omega | (simp only [World.size_alloc, World.size_setCell, World.size_drew]; omega))
      have hf1_0 := fun o => hb1.frozen (p := ⟨w.heap.size, o, none⟩) (by show w.heap.size < _; first | omega | (simp only [World.size_alloc, World.size_setCell, World.size_drew]; omega))
      have hz1_0 : w.heap.size < w1.heap.size := by omega
      go_wp2_with fail
      refine (h2 _ _ (Ints.of1 (by simp [go_sem, hc1_0, hz1_0]) (by simp))).mono ?_
      rintro e w2 ⟨rfl, hb2⟩
      have hz2 := hb2.size
      try simp only [World.size_alloc, World.size_setCell, World.size_drew] at hz2
      have hc2_0 := fun o => hb2.cell (p := ⟨w.heap.size, o, none⟩) (by show w.heap.size < _; first | omega | (simp only [World.size_alloc, World.size_setCell, World.size_drew]; omega))
      have hf2_0 := fun o => hb2.frozen (p := ⟨w.heap.size, o, none⟩) (by show w.heap.size < _; first | omega | (simp only [World.size_alloc, World.size_setCell, World.size_drew]; omega))
      have hz2_0 : w.heap.size < w2.heap.size := by omega
      go_wp2
      go_ret
      exact ⟨rfl, (by (try show Below _ _ _); repeat (first | (with_reducible refine Below.setCell ?_ (by first | omega | (simp <;> omega)) _) | (with_reducible refine Below.alloc ?_ (by first | omega | (simp <;> omega)) _) | (with_reducible refine Below.drew ?_) | (with_reducible exact Below.refl _ _) | (with_reducible refine below_call ?_ (by assumption) (by first | omega | (simp <;> omega))) | (with_reducible refine below_call ?_ (Drew.below (by assumption) _) (by first | omega | (simp <;> omega)))))⟩
    | true =>
      rw [e2] at h2
      have k1 := (btw1 _ _ _).1 e1
      have k2 := (btw1 _ _ _).1 e2
      have h3 := fun W => divisor_any a b (by omega) (by omega) W
      have hd : (divS a b != 1) = !decide (divS a b = 1) := by
        rw [Bool.eq_iff_iff]; simp
      generalize divS a b = d at h3 hd ⊢
      have Hd := Lib.hid hd
      clear hd
      go_enter Try.func143, Try.ntmps143
      go_wp2_with fail
      refine (h1 _ _ (Ints.of1 (by simp [go_sem]) (by simp))).mono ?_
      rintro e w1 ⟨rfl, hb1⟩
      have hz1 := hb1.size
      try simp only [World.size_alloc, World.size_setCell, World.size_drew] at hz1
      have hc1_0 := fun o => hb1.cell (p := ⟨w.heap.size, o, none⟩) (by show w.heap.size < _; first | omega | (simp only [World.size_alloc, World.size_setCell, World.size_drew]; omega))
      have hf1_0 := fun o => hb1.frozen (p := ⟨w.heap.size, o, none⟩) (by show w.heap.size < _; first | omega | (simp only [World.size_alloc, World.size_setCell, World.size_drew]; omega))
      have hz1_0 : w.heap.size < w1.heap.size := by omega
      go_wp2_with fail
      refine (h2 _ _ (Ints.of1 (by simp [go_sem, hc1_0, hz1_0]) (by simp))).mono ?_
      rintro e w2 ⟨rfl, hb2⟩
      have hz2 := hb2.size
      try simp only [World.size_alloc, World.size_setCell, World.size_drew] at hz2
      have hc2_0 := fun o => hb2.cell (p := ⟨w.heap.size, o, none⟩) (by show w.heap.size < _; first | omega | (simp only [World.size_alloc, World.size_setCell, World.size_drew]; omega))
      have hf2_0 := fun o => hb2.frozen (p := ⟨w.heap.size, o, none⟩) (by show w.heap.size < _; first | omega | (simp only [World.size_alloc, World.size_setCell, World.size_drew]; omega))
      have hz2_0 : w.heap.size < w2.heap.size := by omega
      go_wp2_with fail
      refine (h3 _).mono ?_
      rintro e w3 ⟨rfl, hb3⟩
      have hz3 := hb3.size
      try simp only [World.size_alloc, World.size_setCell, World.size_drew] at hz3
      have hc3_0 := fun o => hb3.cell (p := ⟨w.heap.size, o, none⟩) (by show w.heap.size < _; first | omega | (simp only [World.size_alloc, World.size_setCell, World.size_drew]; omega))
      have hf3_0 := fun o => hb3.frozen (p := ⟨w.heap.size, o, none⟩) (by show w.heap.size < _; first | omega | (simp only [World.size_alloc, World.size_setCell, World.size_drew]; omega))
      have hz3_0 : w.heap.size < w3.heap.size := by omega
      go_wp2
      go_ret
      exact ⟨by rw [Bool.true_and, Bool.true_and, ← Hd.out]; rfl, (by (try show Below _ _ _); repeat (first | (with_reducible refine Below.setCell ?_ (by first | omega | (simp <;> omega)) _) | (with_reducible refine Below.alloc ?_ (by first | omega | (simp <;> omega)) _) | (with_reducible refine Below.drew ?_) | (with_reducible exact Below.refl _ _) | (with_reducible refine below_call ?_ (by assumption) (by first | omega | (simp <;> omega))) | (with_reducible refine below_call ?_ (Drew.below (by assumption) _) (by first | omega | (simp <;> omega)))))⟩

theorem isPart_pred (w : World) : PredB Try.prog 143 #[] R.val (fun a => !okP a) w := by
  rintro ⟨a, b⟩ W _
  exact isPart_lit a b W

theorem isPart_any_eq (xs : List R) : (!xs.any fun a => !okP a) = xs.all okP := by
  induction xs with
  | nil => rfl
  | cons x l ih => simp only [List.any_cons, List.all_cons, Bool.not_or, Bool.not_not] at ih ⊢; rw [ih]

set_option maxHeartbeats 400000 in
theorem isPart_any (lo : Nat) (A : Option Addr) (n c : Nat) (xs : List R) (w : World) (hx : Ranges w lo A xs) (hn : Aside (xs.length = n)) (hl : n ≤ maxLen) :
    Calls Try.prog 111 #[.slice A n c] w fun e w' => e = .returned (.bool (xs.all okP)) ∧ Below w.heap.size w w' := by
  have eg : Enters Try.prog 143 := enters_of Try.func143 (by kernel_rfl) rfl
  have hcall := containsFunc_Part 143 #[] (fun a => !okP a) lo A n c xs w eg hx hn hl (isPart_pred w)
  have e := isPart_any_eq xs
  generalize xs.all okP = r at e
  generalize (xs.any fun a => !okP a) = q at e hcall
  subst e
  clear hx hn eg
  go_enter Try.func111, Try.ntmps111
  go_wp2_with (go_at_call 142; refine hcall.mono ?_; rintro e w' ⟨rfl, hb'⟩)
  go_ret
  exact ⟨rfl, hb'⟩

/-- in lowest terms -/
def lowestS (num den : Int) : R × Int :=
  let d := if den < 0 then -divS num den else divS num den
  if okP ⟨num.tdiv d, den.tdiv d⟩ then (⟨num.tdiv d, den.tdiv d⟩, 0) else (⟨0, 0⟩, 10)

theorem tdiv_le (n d : Int) (h : d ≠ 0) : -(n.natAbs : Int) ≤ n.tdiv d ∧ n.tdiv d ≤ n.natAbs := by
  have h1 : (n.tdiv d).natAbs = n.natAbs / d.natAbs := Int.natAbs_tdiv n d
  have h2 : n.natAbs / d.natAbs ≤ n.natAbs := Nat.div_le_self _ _
  omega

set_option maxHeartbeats 1000000 in
theorem lowest_any (num den : Int) (hnum : -9223372036854775807 ≤ num ∧ num ≤ 9223372036854775807) (hden : -9223372036854775807 ≤ den ∧ den ≤ 9223372036854775807) (h0 : den ≠ 0) (w : World) :
    Calls Try.prog 110 #[.int .i64 num, .int .i64 den] w fun e w' => e = .returned (RE (lowestS num den)) ∧ Below w.heap.size w w' := by
  have hD := fun W => divisor_any num den hnum hden W
  obtain ⟨d1, d2⟩ := divS_le num den h0
  unfold lowestS
  by_cases hs : den < 0
  all_goals
    simp only [hs, if_true, if_false]
  · have hne : -divS num den ≠ 0 := by omega
    have t1 := tdiv_le num _ hne
    have t2 := tdiv_le den _ hne
    simp only [Int.tdiv_neg] at t1 t2 ⊢
    generalize divS num den = d at *
    have hP := fun (A : Option Addr) (W : World) h => isPart_any 0 A 1 1 [⟨-num.tdiv d, -den.tdiv d⟩] W h rfl one_le
    have e0 : [(⟨-num.tdiv d, -den.tdiv d⟩ : R)].all okP = okP ⟨-num.tdiv d, -den.tdiv d⟩ := by simp
    rw [e0] at hP
    have hz0 : ((-d) == 0) = false := by rw [beq_eq_false_iff_ne]; exact hne
    generalize okP ⟨-num.tdiv d, -den.tdiv d⟩ = r at hP ⊢
    clear e0 h0 hne
    unfold RE
    cases r with
    | false =>
      simp only [Bool.false_eq_true, if_false]
      go_enter Try.func110, Try.ntmps110
      go_wp2_with fail
      refine (hD _).mono ?_
      rintro e w1 ⟨rfl, hb1⟩
      have hz1 := hb1.size
      try simp only [World.size_alloc, World.size_setCell, World.size_drew] at hz1
      have hc1_0 := fun o => hb1.cell (p := ⟨w.heap.size, o, none⟩) (by show w.heap.size < _; first | omega | (simp only [World.size_alloc, World.size_setCell, World.size_drew]; omega))
      have hf1_0 := fun o => hb1.frozen (p := ⟨w.heap.size, o, none⟩) (by show w.heap.size < _; first | omega | (simp only [World.size_alloc, World.size_setCell, World.size_drew]; omega))
      have hz1_0 : w.heap.size < w1.heap.size := by omega
      go_wp2_with fail
      go_region
      go_wp2_with fail
      refine (hP _ _ (Elems.of1 (by simp [go_sem]) (by simp [go_sem]) (by simp))).mono ?_
      rintro e w2 ⟨rfl, hb2⟩
      have hz2 := hb2.size
      try simp only [World.size_alloc, World.size_setCell, World.size_drew] at hz2
      have hc2_0 := fun o => hb2.cell (p := ⟨w.heap.size, o, none⟩) (by show w.heap.size < _; first | omega | (simp only [World.size_alloc, World.size_setCell, World.size_drew]; omega))
      have hf2_0 := fun o => hb2.frozen (p := ⟨w.heap.size, o, none⟩) (by show w.heap.size < _; first | omega | (simp only [World.size_alloc, World.size_setCell, World.size_drew]; omega))
      have hz2_0 : w.heap.size < w2.heap.size := by omega
      go_wp2
      refine bodyPost_ret (v := .tuple #[.agg #[.int .i64 0, .int .i64 0], .int .i64 10]) (by simp [results, Try.results110, go_sem, cell_set, hc1_0, hc2_0, hz1_0]) rfl ⟨rfl, (by (try show Below _ _ _); repeat (first | (with_reducible refine Below.setCell ?_ (by first | omega | (simp <;> omega)) _) | (with_reducible refine Below.alloc ?_ (by first | omega | (simp <;> omega)) _) | (with_reducible refine Below.drew ?_) | (with_reducible exact Below.refl _ _) | (with_reducible refine below_call ?_ (by assumption) (by first | omega | (simp <;> omega))) | (with_reducible refine below_call ?_ (Drew.below (by assumption) _) (by first | omega | (simp <;> omega)))))⟩
    | true =>
      simp only [if_true]
      go_enter Try.func110, Try.ntmps110
      go_wp2_with fail
      refine (hD _).mono ?_
      rintro e w1 ⟨rfl, hb1⟩
      have hz1 := hb1.size
      try simp only [World.size_alloc, World.size_setCell, World.size_drew] at hz1
      have hc1_0 := fun o => hb1.cell (p := ⟨w.heap.size, o, none⟩) (by show w.heap.size < _; first | omega | (simp only [World.size_alloc, World.size_setCell, World.size_drew]; omega))
      have hf1_0 := fun o => hb1.frozen (p := ⟨w.heap.size, o, none⟩) (by show w.heap.size < _; first | omega | (simp only [World.size_alloc, World.size_setCell, World.size_drew]; omega))
      have hz1_0 : w.heap.size < w1.heap.size := by omega
      go_wp2_with fail
      go_region
      go_wp2_with fail
      refine (hP _ _ (Elems.of1 (by simp [go_sem]) (by simp [go_sem]) (by simp))).mono ?_
      rintro e w2 ⟨rfl, hb2⟩
      have hz2 := hb2.size
      try simp only [World.size_alloc, World.size_setCell, World.size_drew] at hz2
      have hc2_0 := fun o => hb2.cell (p := ⟨w.heap.size, o, none⟩) (by show w.heap.size < _; first | omega | (simp only [World.size_alloc, World.size_setCell, World.size_drew]; omega))
      have hf2_0 := fun o => hb2.frozen (p := ⟨w.heap.size, o, none⟩) (by show w.heap.size < _; first | omega | (simp only [World.size_alloc, World.size_setCell, World.size_drew]; omega))
      have hz2_0 : w.heap.size < w2.heap.size := by omega
      have hc2_a := fun o => hb2.cell (p := ⟨w1.heap.size, o, none⟩) (by show w1.heap.size < _; first | omega | (simp only [World.size_alloc, World.size_setCell, World.size_drew]; omega))
      have hf2_a := fun o => hb2.frozen (p := ⟨w1.heap.size, o, none⟩) (by show w1.heap.size < _; first | omega | (simp only [World.size_alloc, World.size_setCell, World.size_drew]; omega))
      have hz2_a : w1.heap.size < w2.heap.size := by omega
      go_wp2
      refine bodyPost_ret (v := .tuple #[.agg #[.int .i64 (-num.tdiv d), .int .i64 (-den.tdiv d)], .int .i64 0]) (by simp [results, Try.results110, go_sem, cell_set, hc1_0, hc2_0, hc2_a, hz1_0]) rfl ⟨rfl, (by (try show Below _ _ _); repeat (first | (with_reducible refine Below.setCell ?_ (by first | omega | (simp <;> omega)) _) | (with_reducible refine Below.alloc ?_ (by first | omega | (simp <;> omega)) _) | (with_reducible refine Below.drew ?_) | (with_reducible exact Below.refl _ _) | (with_reducible refine below_call ?_ (by assumption) (by first | omega | (simp <;> omega))) | (with_reducible refine below_call ?_ (Drew.below (by assumption) _) (by first | omega | (simp <;> omega)))))⟩
  · have hne : divS num den ≠ 0 := by omega
    have t1 := tdiv_le num _ hne
    have t2 := tdiv_le den _ hne
    skip
    generalize divS num den = d at *
    have hP := fun (A : Option Addr) (W : World) h => isPart_any 0 A 1 1 [⟨num.tdiv d, den.tdiv d⟩] W h rfl one_le
    have e0 : [(⟨num.tdiv d, den.tdiv d⟩ : R)].all okP = okP ⟨num.tdiv d, den.tdiv d⟩ := by simp
    rw [e0] at hP
    have hz0 : ((d) == 0) = false := by rw [beq_eq_false_iff_ne]; exact hne
    generalize okP ⟨num.tdiv d, den.tdiv d⟩ = r at hP ⊢
    clear e0 h0 hne
    unfold RE
    cases r with
    | false =>
      simp only [Bool.false_eq_true, if_false]
      go_enter Try.func110, Try.ntmps110
      go_wp2_with fail
      refine (hD _).mono ?_
      rintro e w1 ⟨rfl, hb1⟩
      have hz1 := hb1.size
      try simp only [World.size_alloc, World.size_setCell, World.size_drew] at hz1
      have hc1_0 := fun o => hb1.cell (p := ⟨w.heap.size, o, none⟩) (by show w.heap.size < _; first | omega | (simp only [World.size_alloc, World.size_setCell, World.size_drew]; omega))
      have hf1_0 := fun o => hb1.frozen (p := ⟨w.heap.size, o, none⟩) (by show w.heap.size < _; first | omega | (simp only [World.size_alloc, World.size_setCell, World.size_drew]; omega))
      have hz1_0 : w.heap.size < w1.heap.size := by omega
      go_wp2_with fail
      go_region
      go_wp2_with fail
      refine (hP _ _ (Elems.of1 (by simp [go_sem]) (by simp [go_sem]) (by simp))).mono ?_
      rintro e w2 ⟨rfl, hb2⟩
      have hz2 := hb2.size
      try simp only [World.size_alloc, World.size_setCell, World.size_drew] at hz2
      have hc2_0 := fun o => hb2.cell (p := ⟨w.heap.size, o, none⟩) (by show w.heap.size < _; first | omega | (simp only [World.size_alloc, World.size_setCell, World.size_drew]; omega))
      have hf2_0 := fun o => hb2.frozen (p := ⟨w.heap.size, o, none⟩) (by show w.heap.size < _; first | omega | (simp only [World.size_alloc, World.size_setCell, World.size_drew]; omega))
      have hz2_0 : w.heap.size < w2.heap.size := by omega
      go_wp2
      refine bodyPost_ret (v := .tuple #[.agg #[.int .i64 0, .int .i64 0], .int .i64 10]) (by simp [results, Try.results110, go_sem, cell_set, hc1_0, hc2_0, hz1_0]) rfl ⟨rfl, (by (try show Below _ _ _); repeat (first | (with_reducible refine Below.setCell ?_ (by first | omega | (simp <;> omega)) _) | (with_reducible refine Below.alloc ?_ (by first | omega | (simp <;> omega)) _) | (with_reducible refine Below.drew ?_) | (with_reducible exact Below.refl _ _) | (with_reducible refine below_call ?_ (by assumption) (by first | omega | (simp <;> omega))) | (with_reducible refine below_call ?_ (Drew.below (by assumption) _) (by first | omega | (simp <;> omega)))))⟩
    | true =>
      simp only [if_true]
      go_enter Try.func110, Try.ntmps110
      go_wp2_with fail
      refine (hD _).mono ?_
      rintro e w1 ⟨rfl, hb1⟩
      have hz1 := hb1.size
      try simp only [World.size_alloc, World.size_setCell, World.size_drew] at hz1
      have hc1_0 := fun o => hb1.cell (p := ⟨w.heap.size, o, none⟩) (by show w.heap.size < _; first | omega | (simp only [World.size_alloc, World.size_setCell, World.size_drew]; omega))
      have hf1_0 := fun o => hb1.frozen (p := ⟨w.heap.size, o, none⟩) (by show w.heap.size < _; first | omega | (simp only [World.size_alloc, World.size_setCell, World.size_drew]; omega))
      have hz1_0 : w.heap.size < w1.heap.size := by omega
      go_wp2_with fail
      go_region
      go_wp2_with fail
      refine (hP _ _ (Elems.of1 (by simp [go_sem]) (by simp [go_sem]) (by simp))).mono ?_
      rintro e w2 ⟨rfl, hb2⟩
      have hz2 := hb2.size
      try simp only [World.size_alloc, World.size_setCell, World.size_drew] at hz2
      have hc2_0 := fun o => hb2.cell (p := ⟨w.heap.size, o, none⟩) (by show w.heap.size < _; first | omega | (simp only [World.size_alloc, World.size_setCell, World.size_drew]; omega))
      have hf2_0 := fun o => hb2.frozen (p := ⟨w.heap.size, o, none⟩) (by show w.heap.size < _; first | omega | (simp only [World.size_alloc, World.size_setCell, World.size_drew]; omega))
      have hz2_0 : w.heap.size < w2.heap.size := by omega
      have hc2_a := fun o => hb2.cell (p := ⟨w1.heap.size, o, none⟩) (by show w1.heap.size < _; first | omega | (simp only [World.size_alloc, World.size_setCell, World.size_drew]; omega))
      have hf2_a := fun o => hb2.frozen (p := ⟨w1.heap.size, o, none⟩) (by show w1.heap.size < _; first | omega | (simp only [World.size_alloc, World.size_setCell, World.size_drew]; omega))
      have hz2_a : w1.heap.size < w2.heap.size := by omega
      go_wp2
      refine bodyPost_ret (v := .tuple #[.agg #[.int .i64 (num.tdiv d), .int .i64 (den.tdiv d)], .int .i64 0]) (by simp [results, Try.results110, go_sem, cell_set, hc1_0, hc2_0, hc2_a, hz1_0]) rfl ⟨rfl, (by (try show Below _ _ _); repeat (first | (with_reducible refine Below.setCell ?_ (by first | omega | (simp <;> omega)) _) | (with_reducible refine Below.alloc ?_ (by first | omega | (simp <;> omega)) _) | (with_reducible refine Below.drew ?_) | (with_reducible exact Below.refl _ _) | (with_reducible refine below_call ?_ (by assumption) (by first | omega | (simp <;> omega))) | (with_reducible refine below_call ?_ (Drew.below (by assumption) _) (by first | omega | (simp <;> omega)))))⟩

theorem allP2 (a b : R) : [a, b].all okP = (okP a && okP b) := by simp

def makePartS (num den : Int) : R × Int := if btw (-1000000000000000) 1000000000000000 [num, den] = false ∨ den = 0 then (⟨0, 0⟩, 3) else lowestS num den
theorem btw2 (lo hi x y : Int) : btw lo hi [x, y] = true ↔ (lo ≤ x ∧ x ≤ hi) ∧ (lo ≤ y ∧ y ≤ hi) := by simp [btw]

set_option maxHeartbeats 1000000 in
theorem MakePart_any (num den : Int) (w : World) :
    Calls Try.prog 49 #[.int .i64 num, .int .i64 den] w fun e w' => e = .returned (RE (makePartS num den)) ∧ Below w.heap.size w w' := by
  have hI := fun (A : Option Addr) (W : World) h => span_within (-1000000000000000) 1000000000000000 0 A 2 2 [num, den] W h rfl two_le
  unfold makePartS
  cases h1 : btw (-1000000000000000) 1000000000000000 [num, den] with
  | false =>
    rw [h1] at hI
    rw [if_pos (.inl rfl)]
    go_enter Try.func49, Try.ntmps49
    go_wp2_with fail
    refine (hI _ _ (Ints.of2 (by simp [go_sem]) (by simp [go_sem]) (by simp))).mono ?_
    rintro e w1 ⟨rfl, hb1⟩
    have hz1 := hb1.size
    try simp only [World.size_alloc, World.size_setCell, World.size_drew] at hz1
    have hc1_0 := fun o => hb1.cell (p := ⟨w.heap.size, o, none⟩) (by show w.heap.size < _; first | omega | (simp only [World.size_alloc, World.size_setCell, World.size_drew]; omega))
    have hf1_0 := fun o => hb1.frozen (p := ⟨w.heap.size, o, none⟩) (by show w.heap.size < _; first | omega | (simp only [World.size_alloc, World.size_setCell, World.size_drew]; omega))
    have hz1_0 : w.heap.size < w1.heap.size := by omega
    go_wp2
    refine bodyPost_ret (v := .tuple #[.agg #[.int .i64 0, .int .i64 0], .int .i64 3]) (by simp [results, Try.results49, go_sem, cell_set, hc1_0]) rfl ⟨rfl, (by (try show Below _ _ _); repeat (first | (with_reducible refine Below.setCell ?_ (by first | omega | (simp <;> omega)) _) | (with_reducible refine Below.alloc ?_ (by first | omega | (simp <;> omega)) _) | (with_reducible refine Below.drew ?_) | (with_reducible exact Below.refl _ _) | (with_reducible refine below_call ?_ (by assumption) (by first | omega | (simp <;> omega))) | (with_reducible refine below_call ?_ (Drew.below (by assumption) _) (by first | omega | (simp <;> omega)))))⟩
  | true =>
    obtain ⟨k1, k2⟩ := (btw2 _ _ _ _).1 h1
    rw [h1] at hI
    by_cases h2 : den = 0
    · have h2b : (den == 0) = true := by rw [beq_iff_eq]; exact h2
      rw [if_pos (.inr h2)]
      clear h2 h1
      go_enter Try.func49, Try.ntmps49
      go_wp2_with fail
      refine (hI _ _ (Ints.of2 (by simp [go_sem]) (by simp [go_sem]) (by simp))).mono ?_
      rintro e w1 ⟨rfl, hb1⟩
      have hz1 := hb1.size
      try simp only [World.size_alloc, World.size_setCell, World.size_drew] at hz1
      have hc1_0 := fun o => hb1.cell (p := ⟨w.heap.size, o, none⟩) (by show w.heap.size < _; first | omega | (simp only [World.size_alloc, World.size_setCell, World.size_drew]; omega))
      have hf1_0 := fun o => hb1.frozen (p := ⟨w.heap.size, o, none⟩) (by show w.heap.size < _; first | omega | (simp only [World.size_alloc, World.size_setCell, World.size_drew]; omega))
      have hz1_0 : w.heap.size < w1.heap.size := by omega
      go_wp2
      refine bodyPost_ret (v := .tuple #[.agg #[.int .i64 0, .int .i64 0], .int .i64 3]) (by simp [results, Try.results49, go_sem, cell_set, hc1_0]) rfl ⟨rfl, (by (try show Below _ _ _); repeat (first | (with_reducible refine Below.setCell ?_ (by first | omega | (simp <;> omega)) _) | (with_reducible refine Below.alloc ?_ (by first | omega | (simp <;> omega)) _) | (with_reducible refine Below.drew ?_) | (with_reducible exact Below.refl _ _) | (with_reducible refine below_call ?_ (by assumption) (by first | omega | (simp <;> omega))) | (with_reducible refine below_call ?_ (Drew.below (by assumption) _) (by first | omega | (simp <;> omega)))))⟩
    · have h2b : (den == 0) = false := by rw [beq_eq_false_iff_ne]; exact h2
      rw [if_neg (by simp [h2])]
      have hL := fun W => lowest_any num den (by omega) (by omega) h2 W
      clear h2 h1
      generalize lowestS num den = rr at hL ⊢
      unfold RE at hL ⊢
      go_enter Try.func49, Try.ntmps49
      go_wp2_with fail
      refine (hI _ _ (Ints.of2 (by simp [go_sem]) (by simp [go_sem]) (by simp))).mono ?_
      rintro e w1 ⟨rfl, hb1⟩
      have hz1 := hb1.size
      try simp only [World.size_alloc, World.size_setCell, World.size_drew] at hz1
      have hc1_0 := fun o => hb1.cell (p := ⟨w.heap.size, o, none⟩) (by show w.heap.size < _; first | omega | (simp only [World.size_alloc, World.size_setCell, World.size_drew]; omega))
      have hf1_0 := fun o => hb1.frozen (p := ⟨w.heap.size, o, none⟩) (by show w.heap.size < _; first | omega | (simp only [World.size_alloc, World.size_setCell, World.size_drew]; omega))
      have hz1_0 : w.heap.size < w1.heap.size := by omega
      go_wp2_with fail
      refine (hL _).mono ?_
      rintro e w2 ⟨rfl, hb2⟩
      have hz2 := hb2.size
      try simp only [World.size_alloc, World.size_setCell, World.size_drew] at hz2
      have hc2_0 := fun o => hb2.cell (p := ⟨w.heap.size, o, none⟩) (by show w.heap.size < _; first | omega | (simp only [World.size_alloc, World.size_setCell, World.size_drew]; omega))
      have hf2_0 := fun o => hb2.frozen (p := ⟨w.heap.size, o, none⟩) (by show w.heap.size < _; first | omega | (simp only [World.size_alloc, World.size_setCell, World.size_drew]; omega))
      have hz2_0 : w.heap.size < w2.heap.size := by omega
      go_wp2
      refine bodyPost_ret (v := .tuple #[.agg #[.int .i64 rr.1.lo, .int .i64 rr.1.hi], .int .i64 rr.2]) (by simp [results, Try.results49, go_sem, cell_set, hc1_0, hc2_0, hz1_0]) rfl ⟨rfl, (by (try show Below _ _ _); repeat (first | (with_reducible refine Below.setCell ?_ (by first | omega | (simp <;> omega)) _) | (with_reducible refine Below.alloc ?_ (by first | omega | (simp <;> omega)) _) | (with_reducible refine Below.drew ?_) | (with_reducible exact Below.refl _ _) | (with_reducible refine below_call ?_ (by assumption) (by first | omega | (simp <;> omega))) | (with_reducible refine below_call ?_ (Drew.below (by assumption) _) (by first | omega | (simp <;> omega)))))⟩

theorem prod_bd (x y : Int) (hx : -1000000000 ≤ x ∧ x ≤ 1000000000) (hy : -1000000000 ≤ y ∧ y ≤ 1000000000) : -1000000000000000000 ≤ x * y ∧ x * y ≤ 1000000000000000000 := by
  have h : (x * y).natAbs ≤ 1000000000 * 1000000000 := by
    rw [Int.natAbs_mul]
    exact Nat.mul_le_mul (by omega) (by omega)
  omega

def cmpS (x y : Int) : Int := if x < y then -1 else if y < x then 1 else 0
set_option maxHeartbeats 400000 in
theorem isNaN_int (x : Int) (w : World) :
    Calls Try.prog 144 #[.int .i64 x] w fun e w' => e = .returned (.bool false) ∧ w = w' := by
  have h : (x != x) = false := by simp
  go_enter Try.func144, Try.ntmps144
  go_wp2
  go_ret
  exact ⟨by simp, rfl⟩

set_option maxHeartbeats 400000 in
theorem Compare_int (x y : Int) (w : World) :
    Calls Try.prog 112 #[.int .i64 x, .int .i64 y] w fun e w' => e = .returned (.int .i64 (cmpS x y)) ∧ w = w' := by
  have h1 := fun W => isNaN_int x W
  have h2 := fun W => isNaN_int y W
  unfold cmpS
  rcases (show x < y ∨ y < x ∨ x = y from by omega) with h | h | h
  · rw [if_pos h]
    go_enter Try.func112, Try.ntmps112
    go_wp2_with fail
    refine (h1 _).mono ?_
    rintro e w0x ⟨rfl, rfl⟩
    go_wp2_with fail
    refine (h2 _).mono ?_
    rintro e w0x ⟨rfl, rfl⟩
    go_wp2
    go_ret
    exact ⟨rfl, rfl⟩
  · rw [if_neg (by omega), if_pos h]
    go_enter Try.func112, Try.ntmps112
    go_wp2_with fail
    refine (h1 _).mono ?_
    rintro e w0x ⟨rfl, rfl⟩
    go_wp2_with fail
    refine (h2 _).mono ?_
    rintro e w0x ⟨rfl, rfl⟩
    go_wp2
    go_ret
    exact ⟨rfl, rfl⟩
  · rw [if_neg (by omega), if_neg (by omega)]
    have g1 : ¬ x < y := by omega
    have g2 : ¬ y < x := by omega
    clear h
    go_enter Try.func112, Try.ntmps112
    go_wp2_with fail
    refine (h1 _).mono ?_
    rintro e w0x ⟨rfl, rfl⟩
    go_wp2_with fail
    refine (h2 _).mono ?_
    rintro e w0x ⟨rfl, rfl⟩
    go_wp2
    go_ret
    exact ⟨rfl, rfl⟩

def comparePartS (a b : R) : Int × Int := if okP a = false ∨ okP b = false then (0, 2) else (cmpS (a.lo * b.hi) (b.lo * a.hi), 0)
def addPartS (a b : R) : R × Int := if okP a = false ∨ okP b = false then (⟨0, 0⟩, 2) else lowestS (a.lo * b.hi + b.lo * a.hi) (a.hi * b.hi)
def mulPartS (a b : R) : R × Int := if okP a = false ∨ okP b = false then (⟨0, 0⟩, 2) else lowestS (a.lo * b.lo) (a.hi * b.hi)
def IE2 (x : Int × Int) : Value := .tuple #[.int .i64 x.1, .int .i64 x.2]

set_option maxHeartbeats 1000000 in
theorem ComparePart_any (a0 a1 b0 b1 : Int) (w : World) :
    Calls Try.prog 53 #[.agg #[.int .i64 a0, .int .i64 a1], .agg #[.int .i64 b0, .int .i64 b1]] w fun e w' => e = .returned (IE2 (comparePartS ⟨a0, a1⟩ ⟨b0, b1⟩)) ∧ Below w.heap.size w w' := by
  have hR := fun (A : Option Addr) (W : World) h => isPart_any 0 A 2 2 [⟨a0, a1⟩, ⟨b0, b1⟩] W h rfl two_le
  rw [allP2] at hR
  unfold comparePartS
  by_cases hbad : okP ⟨a0, a1⟩ = false ∨ okP ⟨b0, b1⟩ = false
  · have hr : (okP ⟨a0, a1⟩ && okP ⟨b0, b1⟩) = false := by rcases hbad with h | h <;> simp [h]
    rw [hr] at hR
    rw [if_pos hbad]
    clear hbad hr
    go_enter Try.func53, Try.ntmps53
    go_wp2_with fail
    refine (hR _ _ (Elems.of2 (by simp [go_sem]) (by simp [go_sem]) (by simp [go_sem]) (by simp [go_sem]) (by simp))).mono ?_
    rintro e w1 ⟨rfl, hb1⟩
    have hz1 := hb1.size
    try simp only [World.size_alloc, World.size_setCell, World.size_drew] at hz1
    have hc1_0 := fun o => hb1.cell (p := ⟨w.heap.size, o, none⟩) (by show w.heap.size < _; first | omega | (simp only [World.size_alloc, World.size_setCell, World.size_drew]; omega))
    have hf1_0 := fun o => hb1.frozen (p := ⟨w.heap.size, o, none⟩) (by show w.heap.size < _; first | omega | (simp only [World.size_alloc, World.size_setCell, World.size_drew]; omega))
    have hz1_0 : w.heap.size < w1.heap.size := by omega
    have hc1_1 := fun o => hb1.cell (p := ⟨w.heap.size + 1, o, none⟩) (by show w.heap.size + 1 < _; first | omega | (simp only [World.size_alloc, World.size_setCell, World.size_drew]; omega))
    have hf1_1 := fun o => hb1.frozen (p := ⟨w.heap.size + 1, o, none⟩) (by show w.heap.size + 1 < _; first | omega | (simp only [World.size_alloc, World.size_setCell, World.size_drew]; omega))
    have hz1_1 : w.heap.size + 1 < w1.heap.size := by omega
    go_wp2
    go_ret2
    exact ⟨rfl, (by (try show Below _ _ _); repeat (first | (with_reducible refine Below.setCell ?_ (by first | omega | (simp <;> omega)) _) | (with_reducible refine Below.alloc ?_ (by first | omega | (simp <;> omega)) _) | (with_reducible refine Below.drew ?_) | (with_reducible exact Below.refl _ _) | (with_reducible refine below_call ?_ (by assumption) (by first | omega | (simp <;> omega))) | (with_reducible refine below_call ?_ (Drew.below (by assumption) _) (by first | omega | (simp <;> omega)))))⟩
  · have hk1 : okP ⟨a0, a1⟩ = true := by cases h : okP ⟨a0, a1⟩ with
      | true => rfl
      | false => exact absurd (.inl h) hbad
    have hk2 : okP ⟨b0, b1⟩ = true := by cases h : okP ⟨b0, b1⟩ with
      | true => rfl
      | false => exact absurd (.inr h) hbad
    obtain ⟨k0, k1, _⟩ := (okP_iff _).1 hk1
    obtain ⟨k2, k3, _⟩ := (okP_iff _).1 hk2
    simp only at k0 k1 k2 k3
    have hr : (okP ⟨a0, a1⟩ && okP ⟨b0, b1⟩) = true := by simp [hk1, hk2]
    rw [hr] at hR
    rw [if_neg hbad]
    clear hbad hr
    obtain ⟨m1, m2⟩ := prod_bd a0 b1 k0 (by omega)
    obtain ⟨m3, m4⟩ := prod_bd b0 a1 k2 (by omega)
    obtain ⟨m5, m6⟩ := prod_bd a1 b1 (by omega) (by omega)
    obtain ⟨m7, m8⟩ := prod_bd a0 b0 k0 k2
    have m9 := Int.mul_pos (show 0 < a1 by omega) (show 0 < b1 by omega)
    have hC := fun W => Compare_int (a0 * b1) (b0 * a1) W
    unfold IE2
    simp only
    generalize cmpS (a0 * b1) (b0 * a1) = rr at hC ⊢
    go_enter Try.func53, Try.ntmps53
    go_wp2_with fail
    refine (hR _ _ (Elems.of2 (by simp [go_sem]) (by simp [go_sem]) (by simp [go_sem]) (by simp [go_sem]) (by simp))).mono ?_
    rintro e w1 ⟨rfl, hb1⟩
    have hz1 := hb1.size
    try simp only [World.size_alloc, World.size_setCell, World.size_drew] at hz1
    have hc1_0 := fun o => hb1.cell (p := ⟨w.heap.size, o, none⟩) (by show w.heap.size < _; first | omega | (simp only [World.size_alloc, World.size_setCell, World.size_drew]; omega))
    have hf1_0 := fun o => hb1.frozen (p := ⟨w.heap.size, o, none⟩) (by show w.heap.size < _; first | omega | (simp only [World.size_alloc, World.size_setCell, World.size_drew]; omega))
    have hz1_0 : w.heap.size < w1.heap.size := by omega
    have hc1_1 := fun o => hb1.cell (p := ⟨w.heap.size + 1, o, none⟩) (by show w.heap.size + 1 < _; first | omega | (simp only [World.size_alloc, World.size_setCell, World.size_drew]; omega))
    have hf1_1 := fun o => hb1.frozen (p := ⟨w.heap.size + 1, o, none⟩) (by show w.heap.size + 1 < _; first | omega | (simp only [World.size_alloc, World.size_setCell, World.size_drew]; omega))
    have hz1_1 : w.heap.size + 1 < w1.heap.size := by omega
    go_wp2_with fail
    refine (hC _).mono ?_
    rintro e w0x ⟨rfl, rfl⟩
    go_wp2
    go_ret2
    exact ⟨rfl, (by (try show Below _ _ _); repeat (first | (with_reducible refine Below.setCell ?_ (by first | omega | (simp <;> omega)) _) | (with_reducible refine Below.alloc ?_ (by first | omega | (simp <;> omega)) _) | (with_reducible refine Below.drew ?_) | (with_reducible exact Below.refl _ _) | (with_reducible refine below_call ?_ (by assumption) (by first | omega | (simp <;> omega))) | (with_reducible refine below_call ?_ (Drew.below (by assumption) _) (by first | omega | (simp <;> omega)))))⟩

set_option maxHeartbeats 1000000 in
theorem AddPart_any (a0 a1 b0 b1 : Int) (w : World) :
    Calls Try.prog 54 #[.agg #[.int .i64 a0, .int .i64 a1], .agg #[.int .i64 b0, .int .i64 b1]] w fun e w' => e = .returned (RE (addPartS ⟨a0, a1⟩ ⟨b0, b1⟩)) ∧ Below w.heap.size w w' := by
  have hR := fun (A : Option Addr) (W : World) h => isPart_any 0 A 2 2 [⟨a0, a1⟩, ⟨b0, b1⟩] W h rfl two_le
  rw [allP2] at hR
  unfold addPartS
  by_cases hbad : okP ⟨a0, a1⟩ = false ∨ okP ⟨b0, b1⟩ = false
  · have hr : (okP ⟨a0, a1⟩ && okP ⟨b0, b1⟩) = false := by rcases hbad with h | h <;> simp [h]
    rw [hr] at hR
    rw [if_pos hbad]
    clear hbad hr
    go_enter Try.func54, Try.ntmps54
    go_wp2_with fail
    refine (hR _ _ (Elems.of2 (by simp [go_sem]) (by simp [go_sem]) (by simp [go_sem]) (by simp [go_sem]) (by simp))).mono ?_
    rintro e w1 ⟨rfl, hb1⟩
    have hz1 := hb1.size
    try simp only [World.size_alloc, World.size_setCell, World.size_drew] at hz1
    have hc1_0 := fun o => hb1.cell (p := ⟨w.heap.size, o, none⟩) (by show w.heap.size < _; first | omega | (simp only [World.size_alloc, World.size_setCell, World.size_drew]; omega))
    have hf1_0 := fun o => hb1.frozen (p := ⟨w.heap.size, o, none⟩) (by show w.heap.size < _; first | omega | (simp only [World.size_alloc, World.size_setCell, World.size_drew]; omega))
    have hz1_0 : w.heap.size < w1.heap.size := by omega
    have hc1_1 := fun o => hb1.cell (p := ⟨w.heap.size + 1, o, none⟩) (by show w.heap.size + 1 < _; first | omega | (simp only [World.size_alloc, World.size_setCell, World.size_drew]; omega))
    have hf1_1 := fun o => hb1.frozen (p := ⟨w.heap.size + 1, o, none⟩) (by show w.heap.size + 1 < _; first | omega | (simp only [World.size_alloc, World.size_setCell, World.size_drew]; omega))
    have hz1_1 : w.heap.size + 1 < w1.heap.size := by omega
    have hc1_2 := fun o => hb1.cell (p := ⟨w.heap.size + 1 + 1, o, none⟩) (by show w.heap.size + 1 + 1 < _; first | omega | (simp only [World.size_alloc, World.size_setCell, World.size_drew]; omega))
    have hf1_2 := fun o => hb1.frozen (p := ⟨w.heap.size + 1 + 1, o, none⟩) (by show w.heap.size + 1 + 1 < _; first | omega | (simp only [World.size_alloc, World.size_setCell, World.size_drew]; omega))
    have hz1_2 : w.heap.size + 1 + 1 < w1.heap.size := by omega
    go_wp2
    refine bodyPost_ret (v := .tuple #[.agg #[.int .i64 0, .int .i64 0], .int .i64 2]) (by simp [results, Try.results54, go_sem, cell_set, hc1_0, hc1_1, hc1_2]) rfl ⟨rfl, (by (try show Below _ _ _); repeat (first | (with_reducible refine Below.setCell ?_ (by first | omega | (simp <;> omega)) _) | (with_reducible refine Below.alloc ?_ (by first | omega | (simp <;> omega)) _) | (with_reducible refine Below.drew ?_) | (with_reducible exact Below.refl _ _) | (with_reducible refine below_call ?_ (by assumption) (by first | omega | (simp <;> omega))) | (with_reducible refine below_call ?_ (Drew.below (by assumption) _) (by first | omega | (simp <;> omega)))))⟩
    skip
  · have hk1 : okP ⟨a0, a1⟩ = true := by cases h : okP ⟨a0, a1⟩ with
      | true => rfl
      | false => exact absurd (.inl h) hbad
    have hk2 : okP ⟨b0, b1⟩ = true := by cases h : okP ⟨b0, b1⟩ with
      | true => rfl
      | false => exact absurd (.inr h) hbad
    obtain ⟨k0, k1, _⟩ := (okP_iff _).1 hk1
    obtain ⟨k2, k3, _⟩ := (okP_iff _).1 hk2
    simp only at k0 k1 k2 k3
    have hr : (okP ⟨a0, a1⟩ && okP ⟨b0, b1⟩) = true := by simp [hk1, hk2]
    rw [hr] at hR
    rw [if_neg hbad]
    clear hbad hr
    obtain ⟨m1, m2⟩ := prod_bd a0 b1 k0 (by omega)
    obtain ⟨m3, m4⟩ := prod_bd b0 a1 k2 (by omega)
    obtain ⟨m5, m6⟩ := prod_bd a1 b1 (by omega) (by omega)
    obtain ⟨m7, m8⟩ := prod_bd a0 b0 k0 k2
    have m9 := Int.mul_pos (show 0 < a1 by omega) (show 0 < b1 by omega)
    have hL := fun W => lowest_any (a0 * b1 + b0 * a1) (a1 * b1) (by omega) (by omega) (by omega) W
    simp only
    generalize lowestS (a0 * b1 + b0 * a1) (a1 * b1) = rr at hL ⊢
    unfold RE at hL ⊢
    go_enter Try.func54, Try.ntmps54
    go_wp2_with fail
    refine (hR _ _ (Elems.of2 (by simp [go_sem]) (by simp [go_sem]) (by simp [go_sem]) (by simp [go_sem]) (by simp))).mono ?_
    rintro e w1 ⟨rfl, hb1⟩
    have hz1 := hb1.size
    try simp only [World.size_alloc, World.size_setCell, World.size_drew] at hz1
    have hc1_0 := fun o => hb1.cell (p := ⟨w.heap.size, o, none⟩) (by show w.heap.size < _; first | omega | (simp only [World.size_alloc, World.size_setCell, World.size_drew]; omega))
    have hf1_0 := fun o => hb1.frozen (p := ⟨w.heap.size, o, none⟩) (by show w.heap.size < _; first | omega | (simp only [World.size_alloc, World.size_setCell, World.size_drew]; omega))
    have hz1_0 : w.heap.size < w1.heap.size := by omega
    have hc1_1 := fun o => hb1.cell (p := ⟨w.heap.size + 1, o, none⟩) (by show w.heap.size + 1 < _; first | omega | (simp only [World.size_alloc, World.size_setCell, World.size_drew]; omega))
    have hf1_1 := fun o => hb1.frozen (p := ⟨w.heap.size + 1, o, none⟩) (by show w.heap.size + 1 < _; first | omega | (simp only [World.size_alloc, World.size_setCell, World.size_drew]; omega))
    have hz1_1 : w.heap.size + 1 < w1.heap.size := by omega
    have hc1_2 := fun o => hb1.cell (p := ⟨w.heap.size + 1 + 1, o, none⟩) (by show w.heap.size + 1 + 1 < _; first | omega | (simp only [World.size_alloc, World.size_setCell, World.size_drew]; omega))
    have hf1_2 := fun o => hb1.frozen (p := ⟨w.heap.size + 1 + 1, o, none⟩) (by show w.heap.size + 1 + 1 < _; first | omega | (simp only [World.size_alloc, World.size_setCell, World.size_drew]; omega))
    have hz1_2 : w.heap.size + 1 + 1 < w1.heap.size := by omega
    go_wp2_with fail
    refine (hL _).mono ?_
    rintro e w2 ⟨rfl, hb2⟩
    have hz2 := hb2.size
    try simp only [World.size_alloc, World.size_setCell, World.size_drew] at hz2
    have hc2_0 := fun o => hb2.cell (p := ⟨w.heap.size, o, none⟩) (by show w.heap.size < _; first | omega | (simp only [World.size_alloc, World.size_setCell, World.size_drew]; omega))
    have hf2_0 := fun o => hb2.frozen (p := ⟨w.heap.size, o, none⟩) (by show w.heap.size < _; first | omega | (simp only [World.size_alloc, World.size_setCell, World.size_drew]; omega))
    have hz2_0 : w.heap.size < w2.heap.size := by omega
    have hc2_1 := fun o => hb2.cell (p := ⟨w.heap.size + 1, o, none⟩) (by show w.heap.size + 1 < _; first | omega | (simp only [World.size_alloc, World.size_setCell, World.size_drew]; omega))
    have hf2_1 := fun o => hb2.frozen (p := ⟨w.heap.size + 1, o, none⟩) (by show w.heap.size + 1 < _; first | omega | (simp only [World.size_alloc, World.size_setCell, World.size_drew]; omega))
    have hz2_1 : w.heap.size + 1 < w2.heap.size := by omega
    have hc2_2 := fun o => hb2.cell (p := ⟨w.heap.size + 1 + 1, o, none⟩) (by show w.heap.size + 1 + 1 < _; first | omega | (simp only [World.size_alloc, World.size_setCell, World.size_drew]; omega))
    have hf2_2 := fun o => hb2.frozen (p := ⟨w.heap.size + 1 + 1, o, none⟩) (by show w.heap.size + 1 + 1 < _; first | omega | (simp only [World.size_alloc, World.size_setCell, World.size_drew]; omega))
    have hz2_2 : w.heap.size + 1 + 1 < w2.heap.size := by omega
    go_wp2
    refine bodyPost_ret (v := .tuple #[.agg #[.int .i64 rr.1.lo, .int .i64 rr.1.hi], .int .i64 rr.2]) (by simp [results, Try.results54, go_sem, cell_set, hc1_0, hc1_1, hc1_2, hc2_0, hc2_1, hc2_2, hz1_0, hz1_1, hz1_2]) rfl ⟨rfl, (by (try show Below _ _ _); repeat (first | (with_reducible refine Below.setCell ?_ (by first | omega | (simp <;> omega)) _) | (with_reducible refine Below.alloc ?_ (by first | omega | (simp <;> omega)) _) | (with_reducible refine Below.drew ?_) | (with_reducible exact Below.refl _ _) | (with_reducible refine below_call ?_ (by assumption) (by first | omega | (simp <;> omega))) | (with_reducible refine below_call ?_ (Drew.below (by assumption) _) (by first | omega | (simp <;> omega)))))⟩

set_option maxHeartbeats 1000000 in
theorem MulPart_any (a0 a1 b0 b1 : Int) (w : World) :
    Calls Try.prog 55 #[.agg #[.int .i64 a0, .int .i64 a1], .agg #[.int .i64 b0, .int .i64 b1]] w fun e w' => e = .returned (RE (mulPartS ⟨a0, a1⟩ ⟨b0, b1⟩)) ∧ Below w.heap.size w w' := by
  have hR := fun (A : Option Addr) (W : World) h => isPart_any 0 A 2 2 [⟨a0, a1⟩, ⟨b0, b1⟩] W h rfl two_le
  rw [allP2] at hR
  unfold mulPartS
  by_cases hbad : okP ⟨a0, a1⟩ = false ∨ okP ⟨b0, b1⟩ = false
  · have hr : (okP ⟨a0, a1⟩ && okP ⟨b0, b1⟩) = false := by rcases hbad with h | h <;> simp [h]
    rw [hr] at hR
    rw [if_pos hbad]
    clear hbad hr
    go_enter Try.func55, Try.ntmps55
    go_wp2_with fail
    refine (hR _ _ (Elems.of2 (by simp [go_sem]) (by simp [go_sem]) (by simp [go_sem]) (by simp [go_sem]) (by simp))).mono ?_
    rintro e w1 ⟨rfl, hb1⟩
    have hz1 := hb1.size
    try simp only [World.size_alloc, World.size_setCell, World.size_drew] at hz1
    have hc1_0 := fun o => hb1.cell (p := ⟨w.heap.size, o, none⟩) (by show w.heap.size < _; first | omega | (simp only [World.size_alloc, World.size_setCell, World.size_drew]; omega))
    have hf1_0 := fun o => hb1.frozen (p := ⟨w.heap.size, o, none⟩) (by show w.heap.size < _; first | omega | (simp only [World.size_alloc, World.size_setCell, World.size_drew]; omega))
    have hz1_0 : w.heap.size < w1.heap.size := by omega
    have hc1_1 := fun o => hb1.cell (p := ⟨w.heap.size + 1, o, none⟩) (by show w.heap.size + 1 < _; first | omega | (simp only [World.size_alloc, World.size_setCell, World.size_drew]; omega))
    have hf1_1 := fun o => hb1.frozen (p := ⟨w.heap.size + 1, o, none⟩) (by show w.heap.size + 1 < _; first | omega | (simp only [World.size_alloc, World.size_setCell, World.size_drew]; omega))
    have hz1_1 : w.heap.size + 1 < w1.heap.size := by omega
    have hc1_2 := fun o => hb1.cell (p := ⟨w.heap.size + 1 + 1, o, none⟩) (by show w.heap.size + 1 + 1 < _; first | omega | (simp only [World.size_alloc, World.size_setCell, World.size_drew]; omega))
    have hf1_2 := fun o => hb1.frozen (p := ⟨w.heap.size + 1 + 1, o, none⟩) (by show w.heap.size + 1 + 1 < _; first | omega | (simp only [World.size_alloc, World.size_setCell, World.size_drew]; omega))
    have hz1_2 : w.heap.size + 1 + 1 < w1.heap.size := by omega
    go_wp2
    refine bodyPost_ret (v := .tuple #[.agg #[.int .i64 0, .int .i64 0], .int .i64 2]) (by simp [results, Try.results55, go_sem, cell_set, hc1_0, hc1_1, hc1_2]) rfl ⟨rfl, (by (try show Below _ _ _); repeat (first | (with_reducible refine Below.setCell ?_ (by first | omega | (simp <;> omega)) _) | (with_reducible refine Below.alloc ?_ (by first | omega | (simp <;> omega)) _) | (with_reducible refine Below.drew ?_) | (with_reducible exact Below.refl _ _) | (with_reducible refine below_call ?_ (by assumption) (by first | omega | (simp <;> omega))) | (with_reducible refine below_call ?_ (Drew.below (by assumption) _) (by first | omega | (simp <;> omega)))))⟩
    skip
  · have hk1 : okP ⟨a0, a1⟩ = true := by cases h : okP ⟨a0, a1⟩ with
      | true => rfl
      | false => exact absurd (.inl h) hbad
    have hk2 : okP ⟨b0, b1⟩ = true := by cases h : okP ⟨b0, b1⟩ with
      | true => rfl
      | false => exact absurd (.inr h) hbad
    obtain ⟨k0, k1, _⟩ := (okP_iff _).1 hk1
    obtain ⟨k2, k3, _⟩ := (okP_iff _).1 hk2
    simp only at k0 k1 k2 k3
    have hr : (okP ⟨a0, a1⟩ && okP ⟨b0, b1⟩) = true := by simp [hk1, hk2]
    rw [hr] at hR
    rw [if_neg hbad]
    clear hbad hr
    obtain ⟨m1, m2⟩ := prod_bd a0 b1 k0 (by omega)
    obtain ⟨m3, m4⟩ := prod_bd b0 a1 k2 (by omega)
    obtain ⟨m5, m6⟩ := prod_bd a1 b1 (by omega) (by omega)
    obtain ⟨m7, m8⟩ := prod_bd a0 b0 k0 k2
    have m9 := Int.mul_pos (show 0 < a1 by omega) (show 0 < b1 by omega)
    have hL := fun W => lowest_any (a0 * b0) (a1 * b1) (by omega) (by omega) (by omega) W
    simp only
    generalize lowestS (a0 * b0) (a1 * b1) = rr at hL ⊢
    unfold RE at hL ⊢
    go_enter Try.func55, Try.ntmps55
    go_wp2_with fail
    refine (hR _ _ (Elems.of2 (by simp [go_sem]) (by simp [go_sem]) (by simp [go_sem]) (by simp [go_sem]) (by simp))).mono ?_
    rintro e w1 ⟨rfl, hb1⟩
    have hz1 := hb1.size
    try simp only [World.size_alloc, World.size_setCell, World.size_drew] at hz1
    have hc1_0 := fun o => hb1.cell (p := ⟨w.heap.size, o, none⟩) (by show w.heap.size < _; first | omega | (simp only [World.size_alloc, World.size_setCell, World.size_drew]; omega))
    have hf1_0 := fun o => hb1.frozen (p := ⟨w.heap.size, o, none⟩) (by show w.heap.size < _; first | omega | (simp only [World.size_alloc, World.size_setCell, World.size_drew]; omega))
    have hz1_0 : w.heap.size < w1.heap.size := by omega
    have hc1_1 := fun o => hb1.cell (p := ⟨w.heap.size + 1, o, none⟩) (by show w.heap.size + 1 < _; first | omega | (simp only [World.size_alloc, World.size_setCell, World.size_drew]; omega))
    have hf1_1 := fun o => hb1.frozen (p := ⟨w.heap.size + 1, o, none⟩) (by show w.heap.size + 1 < _; first | omega | (simp only [World.size_alloc, World.size_setCell, World.size_drew]; omega))
    have hz1_1 : w.heap.size + 1 < w1.heap.size := by omega
    have hc1_2 := fun o => hb1.cell (p := ⟨w.heap.size + 1 + 1, o, none⟩) (by show w.heap.size + 1 + 1 < _; first | omega | (simp only [World.size_alloc, World.size_setCell, World.size_drew]; omega))
    have hf1_2 := fun o => hb1.frozen (p := ⟨w.heap.size + 1 + 1, o, none⟩) (by show w.heap.size + 1 + 1 < _; first | omega | (simp only [World.size_alloc, World.size_setCell, World.size_drew]; omega))
    have hz1_2 : w.heap.size + 1 + 1 < w1.heap.size := by omega
    go_wp2_with fail
    refine (hL _).mono ?_
    rintro e w2 ⟨rfl, hb2⟩
    have hz2 := hb2.size
    try simp only [World.size_alloc, World.size_setCell, World.size_drew] at hz2
    have hc2_0 := fun o => hb2.cell (p := ⟨w.heap.size, o, none⟩) (by show w.heap.size < _; first | omega | (simp only [World.size_alloc, World.size_setCell, World.size_drew]; omega))
    have hf2_0 := fun o => hb2.frozen (p := ⟨w.heap.size, o, none⟩) (by show w.heap.size < _; first | omega | (simp only [World.size_alloc, World.size_setCell, World.size_drew]; omega))
    have hz2_0 : w.heap.size < w2.heap.size := by omega
    have hc2_1 := fun o => hb2.cell (p := ⟨w.heap.size + 1, o, none⟩) (by show w.heap.size + 1 < _; first | omega | (simp only [World.size_alloc, World.size_setCell, World.size_drew]; omega))
    have hf2_1 := fun o => hb2.frozen (p := ⟨w.heap.size + 1, o, none⟩) (by show w.heap.size + 1 < _; first | omega | (simp only [World.size_alloc, World.size_setCell, World.size_drew]; omega))
    have hz2_1 : w.heap.size + 1 < w2.heap.size := by omega
    have hc2_2 := fun o => hb2.cell (p := ⟨w.heap.size + 1 + 1, o, none⟩) (by show w.heap.size + 1 + 1 < _; first | omega | (simp only [World.size_alloc, World.size_setCell, World.size_drew]; omega))
    have hf2_2 := fun o => hb2.frozen (p := ⟨w.heap.size + 1 + 1, o, none⟩) (by show w.heap.size + 1 + 1 < _; first | omega | (simp only [World.size_alloc, World.size_setCell, World.size_drew]; omega))
    have hz2_2 : w.heap.size + 1 + 1 < w2.heap.size := by omega
    go_wp2
    refine bodyPost_ret (v := .tuple #[.agg #[.int .i64 rr.1.lo, .int .i64 rr.1.hi], .int .i64 rr.2]) (by simp [results, Try.results55, go_sem, cell_set, hc1_0, hc1_1, hc1_2, hc2_0, hc2_1, hc2_2, hz1_0, hz1_1, hz1_2]) rfl ⟨rfl, (by (try show Below _ _ _); repeat (first | (with_reducible refine Below.setCell ?_ (by first | omega | (simp <;> omega)) _) | (with_reducible refine Below.alloc ?_ (by first | omega | (simp <;> omega)) _) | (with_reducible refine Below.drew ?_) | (with_reducible exact Below.refl _ _) | (with_reducible refine below_call ?_ (by assumption) (by first | omega | (simp <;> omega))) | (with_reducible refine below_call ?_ (Drew.below (by assumption) _) (by first | omega | (simp <;> omega)))))⟩



/-- a part of a number -/
def ofS (n : Int) (p : R) : R × Int := if okP p = false then (⟨0, 0⟩, 2) else if btw (-1000000000000000) 1000000000000000 [n] = false then (⟨0, 0⟩, 3) else overS [⟨n, p.lo, p.hi⟩]

set_option maxHeartbeats 1000000 in
theorem Of_any (n a b : Int) (w : World) :
    Calls Try.prog 51 #[.int .i64 n, .agg #[.int .i64 a, .int .i64 b]] w fun e w' => e = .returned (RE (ofS n ⟨a, b⟩)) ∧ Below w.heap.size w w' := by
  have hR := fun (A : Option Addr) (W : World) h => isPart_any 0 A 1 1 [⟨a, b⟩] W h rfl one_le
  have e0 : [(⟨a, b⟩ : R)].all okP = okP ⟨a, b⟩ := by simp
  rw [e0] at hR
  have hI1 := fun (A : Option Addr) (W : World) h => span_within (-1000000000000000) 1000000000000000 0 A 1 1 [n] W h rfl one_le
  unfold ofS
  cases h0 : okP ⟨a, b⟩ with
  | false =>
    rw [h0] at hR
    rw [if_pos rfl]
    go_enter Try.func51, Try.ntmps51
    go_wp2_with fail
    refine (hR _ _ (Elems.of1 (by simp [go_sem]) (by simp [go_sem]) (by simp))).mono ?_
    rintro e w1 ⟨rfl, hb1⟩
    have hz1 := hb1.size
    try simp only [World.size_alloc, World.size_setCell, World.size_drew] at hz1
    have hc1_0 := fun o => hb1.cell (p := ⟨w.heap.size, o, none⟩) (by show w.heap.size < _; first | omega | (simp only [World.size_alloc, World.size_setCell, World.size_drew]; omega))
    have hf1_0 := fun o => hb1.frozen (p := ⟨w.heap.size, o, none⟩) (by show w.heap.size < _; first | omega | (simp only [World.size_alloc, World.size_setCell, World.size_drew]; omega))
    have hz1_0 : w.heap.size < w1.heap.size := by omega
    have hc1_1 := fun o => hb1.cell (p := ⟨w.heap.size + 1, o, none⟩) (by show w.heap.size + 1 < _; first | omega | (simp only [World.size_alloc, World.size_setCell, World.size_drew]; omega))
    have hf1_1 := fun o => hb1.frozen (p := ⟨w.heap.size + 1, o, none⟩) (by show w.heap.size + 1 < _; first | omega | (simp only [World.size_alloc, World.size_setCell, World.size_drew]; omega))
    have hz1_1 : w.heap.size + 1 < w1.heap.size := by omega
    go_wp2
    refine bodyPost_ret (v := .tuple #[.agg #[.int .i64 0, .int .i64 0], .int .i64 2]) (by simp [results, Try.results51, go_sem, cell_set, hc1_0, hc1_1]) rfl ⟨rfl, (by (try show Below _ _ _); repeat (first | (with_reducible refine Below.setCell ?_ (by first | omega | (simp <;> omega)) _) | (with_reducible refine Below.alloc ?_ (by first | omega | (simp <;> omega)) _) | (with_reducible refine Below.drew ?_) | (with_reducible exact Below.refl _ _) | (with_reducible refine below_call ?_ (by assumption) (by first | omega | (simp <;> omega))) | (with_reducible refine below_call ?_ (Drew.below (by assumption) _) (by first | omega | (simp <;> omega)))))⟩
  | true =>
    obtain ⟨k0, k1, _⟩ := (okP_iff _).1 h0
    simp only at k0 k1
    rw [h0] at hR
    rw [if_neg (by decide)]
    cases h1 : btw (-1000000000000000) 1000000000000000 [n] with
    | false =>
      rw [h1] at hI1
      rw [if_pos rfl]
      go_enter Try.func51, Try.ntmps51
      go_wp2_with fail
      refine (hR _ _ (Elems.of1 (by simp [go_sem]) (by simp [go_sem]) (by simp))).mono ?_
      rintro e w1 ⟨rfl, hb1⟩
      have hz1 := hb1.size
      try simp only [World.size_alloc, World.size_setCell, World.size_drew] at hz1
      have hc1_0 := fun o => hb1.cell (p := ⟨w.heap.size, o, none⟩) (by show w.heap.size < _; first | omega | (simp only [World.size_alloc, World.size_setCell, World.size_drew]; omega))
      have hf1_0 := fun o => hb1.frozen (p := ⟨w.heap.size, o, none⟩) (by show w.heap.size < _; first | omega | (simp only [World.size_alloc, World.size_setCell, World.size_drew]; omega))
      have hz1_0 : w.heap.size < w1.heap.size := by omega
      have hc1_1 := fun o => hb1.cell (p := ⟨w.heap.size + 1, o, none⟩) (by show w.heap.size + 1 < _; first | omega | (simp only [World.size_alloc, World.size_setCell, World.size_drew]; omega))
      have hf1_1 := fun o => hb1.frozen (p := ⟨w.heap.size + 1, o, none⟩) (by show w.heap.size + 1 < _; first | omega | (simp only [World.size_alloc, World.size_setCell, World.size_drew]; omega))
      have hz1_1 : w.heap.size + 1 < w1.heap.size := by omega
      go_wp2_with fail
      refine (hI1 _ _ (Ints.of1 (by simp [go_sem]) (by simp))).mono ?_
      rintro e w2 ⟨rfl, hb2⟩
      have hz2 := hb2.size
      try simp only [World.size_alloc, World.size_setCell, World.size_drew] at hz2
      have hc2_0 := fun o => hb2.cell (p := ⟨w.heap.size, o, none⟩) (by show w.heap.size < _; first | omega | (simp only [World.size_alloc, World.size_setCell, World.size_drew]; omega))
      have hf2_0 := fun o => hb2.frozen (p := ⟨w.heap.size, o, none⟩) (by show w.heap.size < _; first | omega | (simp only [World.size_alloc, World.size_setCell, World.size_drew]; omega))
      have hz2_0 : w.heap.size < w2.heap.size := by omega
      have hc2_1 := fun o => hb2.cell (p := ⟨w.heap.size + 1, o, none⟩) (by show w.heap.size + 1 < _; first | omega | (simp only [World.size_alloc, World.size_setCell, World.size_drew]; omega))
      have hf2_1 := fun o => hb2.frozen (p := ⟨w.heap.size + 1, o, none⟩) (by show w.heap.size + 1 < _; first | omega | (simp only [World.size_alloc, World.size_setCell, World.size_drew]; omega))
      have hz2_1 : w.heap.size + 1 < w2.heap.size := by omega
      go_wp2
      refine bodyPost_ret (v := .tuple #[.agg #[.int .i64 0, .int .i64 0], .int .i64 3]) (by simp [results, Try.results51, go_sem, cell_set, hc1_0, hc1_1, hc2_0, hc2_1, hz1_0, hz1_1]) rfl ⟨rfl, (by (try show Below _ _ _); repeat (first | (with_reducible refine Below.setCell ?_ (by first | omega | (simp <;> omega)) _) | (with_reducible refine Below.alloc ?_ (by first | omega | (simp <;> omega)) _) | (with_reducible refine Below.drew ?_) | (with_reducible exact Below.refl _ _) | (with_reducible refine below_call ?_ (by assumption) (by first | omega | (simp <;> omega))) | (with_reducible refine below_call ?_ (Drew.below (by assumption) _) (by first | omega | (simp <;> omega)))))⟩
    | true =>
      have k2 := (btw1 _ _ _).1 h1
      rw [h1] at hI1
      rw [if_neg (by decide)]
      have hO := fun (A : Option Addr) (W : World) h => over_any 0 A 1 1 [⟨n, a, b⟩] W h rfl one_le (show Aside (∀ q ∈ ([⟨n, a, b⟩] : List Q3), q.ok) from by
        intro q hq
        simp only [List.mem_cons, List.not_mem_nil, or_false] at hq
        subst hq
        unfold Q3.ok; simp only; omega)
      simp only
      generalize overS [⟨n, a, b⟩] = rr at hO ⊢
      unfold RE at hO ⊢
      go_enter Try.func51, Try.ntmps51
      go_wp2_with fail
      refine (hR _ _ (Elems.of1 (by simp [go_sem]) (by simp [go_sem]) (by simp))).mono ?_
      rintro e w1 ⟨rfl, hb1⟩
      have hz1 := hb1.size
      try simp only [World.size_alloc, World.size_setCell, World.size_drew] at hz1
      have hc1_0 := fun o => hb1.cell (p := ⟨w.heap.size, o, none⟩) (by show w.heap.size < _; first | omega | (simp only [World.size_alloc, World.size_setCell, World.size_drew]; omega))
      have hf1_0 := fun o => hb1.frozen (p := ⟨w.heap.size, o, none⟩) (by show w.heap.size < _; first | omega | (simp only [World.size_alloc, World.size_setCell, World.size_drew]; omega))
      have hz1_0 : w.heap.size < w1.heap.size := by omega
      have hc1_1 := fun o => hb1.cell (p := ⟨w.heap.size + 1, o, none⟩) (by show w.heap.size + 1 < _; first | omega | (simp only [World.size_alloc, World.size_setCell, World.size_drew]; omega))
      have hf1_1 := fun o => hb1.frozen (p := ⟨w.heap.size + 1, o, none⟩) (by show w.heap.size + 1 < _; first | omega | (simp only [World.size_alloc, World.size_setCell, World.size_drew]; omega))
      have hz1_1 : w.heap.size + 1 < w1.heap.size := by omega
      go_wp2_with fail
      refine (hI1 _ _ (Ints.of1 (by simp [go_sem]) (by simp))).mono ?_
      rintro e w2 ⟨rfl, hb2⟩
      have hz2 := hb2.size
      try simp only [World.size_alloc, World.size_setCell, World.size_drew] at hz2
      have hc2_0 := fun o => hb2.cell (p := ⟨w.heap.size, o, none⟩) (by show w.heap.size < _; first | omega | (simp only [World.size_alloc, World.size_setCell, World.size_drew]; omega))
      have hf2_0 := fun o => hb2.frozen (p := ⟨w.heap.size, o, none⟩) (by show w.heap.size < _; first | omega | (simp only [World.size_alloc, World.size_setCell, World.size_drew]; omega))
      have hz2_0 : w.heap.size < w2.heap.size := by omega
      have hc2_1 := fun o => hb2.cell (p := ⟨w.heap.size + 1, o, none⟩) (by show w.heap.size + 1 < _; first | omega | (simp only [World.size_alloc, World.size_setCell, World.size_drew]; omega))
      have hf2_1 := fun o => hb2.frozen (p := ⟨w.heap.size + 1, o, none⟩) (by show w.heap.size + 1 < _; first | omega | (simp only [World.size_alloc, World.size_setCell, World.size_drew]; omega))
      have hz2_1 : w.heap.size + 1 < w2.heap.size := by omega
      go_wp2_with fail
      refine (hO _ _ (Elems.q1 (by simp [go_sem, hc2_0, hc2_1, hc1_0, hc1_1, hz1_0, hz1_1]) (by simp [go_sem, hc2_0, hc2_1, hc1_0, hc1_1, hz1_0, hz1_1]) (by simp [go_sem, hc2_0, hc2_1, hc1_0, hc1_1, hz1_0, hz1_1]) (by simp))).mono ?_
      rintro e w3 ⟨rfl, hb3⟩
      have hz3 := hb3.size
      try simp only [World.size_alloc, World.size_setCell, World.size_drew] at hz3
      have hc3_0 := fun o => hb3.cell (p := ⟨w.heap.size, o, none⟩) (by show w.heap.size < _; first | omega | (simp only [World.size_alloc, World.size_setCell, World.size_drew]; omega))
      have hf3_0 := fun o => hb3.frozen (p := ⟨w.heap.size, o, none⟩) (by show w.heap.size < _; first | omega | (simp only [World.size_alloc, World.size_setCell, World.size_drew]; omega))
      have hz3_0 : w.heap.size < w3.heap.size := by omega
      have hc3_1 := fun o => hb3.cell (p := ⟨w.heap.size + 1, o, none⟩) (by show w.heap.size + 1 < _; first | omega | (simp only [World.size_alloc, World.size_setCell, World.size_drew]; omega))
      have hf3_1 := fun o => hb3.frozen (p := ⟨w.heap.size + 1, o, none⟩) (by show w.heap.size + 1 < _; first | omega | (simp only [World.size_alloc, World.size_setCell, World.size_drew]; omega))
      have hz3_1 : w.heap.size + 1 < w3.heap.size := by omega
      go_wp2
      refine bodyPost_ret (v := .tuple #[.agg #[.int .i64 rr.1.lo, .int .i64 rr.1.hi], .int .i64 rr.2]) (by simp [results, Try.results51, go_sem, cell_set, hc1_0, hc1_1, hc2_0, hc2_1, hc3_0, hc3_1, hz1_0, hz1_1, hz2_0, hz2_1]) rfl ⟨rfl, (by (try show Below _ _ _); repeat (first | (with_reducible refine Below.setCell ?_ (by first | omega | (simp <;> omega)) _) | (with_reducible refine Below.alloc ?_ (by first | omega | (simp <;> omega)) _) | (with_reducible refine Below.drew ?_) | (with_reducible exact Below.refl _ _) | (with_reducible refine below_call ?_ (by assumption) (by first | omega | (simp <;> omega))) | (with_reducible refine below_call ?_ (Drew.below (by assumption) _) (by first | omega | (simp <;> omega)))))⟩

end Go.Proofs.Ytfohdafijfjefaa
