/- Contracts: the reference's Check and Can (spileref04). -/
import Derived.Test.YtlkecgjpmnganaaThRef1
import Derived.Outline
import Derived.StillTailTactics
set_option linter.unusedSimpArgs false
set_option linter.unusedVariables false
namespace Go.Proofs.Ytlkecgjpmnganaa
open Go.RowKit Go.Shelf

theorem allF_false {α : Type} (p : α → Bool) (d : α) (xs : List α) (k : Nat) (hk : k < xs.length) (h : p (xs[k]?.getD d) = false) : xs.all p = false := by
  rw [List.all_eq_false]
  exact ⟨xs[k], List.getElem_mem hk, by simpa [List.getElem?_eq_getElem hk] using h⟩
theorem allF_true {α : Type} (p : α → Bool) (d : α) (xs : List α) (h : ∀ j, j < xs.length → p (xs[j]?.getD d) = true) : xs.all p = true := by
  rw [List.all_eq_true]
  intro x hx
  obtain ⟨j, hj, rfl⟩ := List.getElem_of_mem hx
  simpa [List.getElem?_eq_getElem hj] using h j hj

set_option maxHeartbeats 1000000 in
theorem refCheck_any (r : TR) (c i : Int) (lo : Nat) (A : Option Addr) (n cc : Nat) (ts : List R) (w : World) (hx : Ranges w lo A ts) (hn : Aside (ts.length = n)) (hl : n ≤ maxLen) :
    Calls Try.prog 18 #[rV r, .agg #[.int .i64 c, .int .i64 i], .slice A n cc] w fun e w' => e = .returned (.int .i64 (errT r c i ts)) ∧ Below w.heap.size w w' := by
  unfold maxLen at hl
  have h1 := fun (W : World) => refStart_any r c i W
  have he : errT r c i ts = if okRules r && okSt r c i then (if 1000 < n then 5 else if ts.all okT then 0 else 2) else 2 := by unfold errT; rw [hn.out]
  generalize hres : errT r c i ts = res at he ⊢
  clear hres
  generalize (okRules r && okSt r c i) = b1 at h1 he
  have HX := Lib.hid hx
  clear hx
  obtain ⟨r0, r1, r2, r3, r4, r5, r6, r7, r8, r9⟩ := r
  unfold rV at h1 ⊢
  cases b1 with
  | false =>
    simp only [Bool.false_eq_true, if_false] at he h1
    subst he
    go_enter Try.func18, Try.ntmps18
    go_wp2_with fail
    refine (h1 _).mono ?_
    rintro e w1 ⟨rfl, hb1⟩
    have hz1 := hb1.size
    simp only [World.size_alloc] at hz1
    have hB1 : Below w.heap.size w w1 := (by (try show Below _ _ _); repeat (first | (with_reducible refine Below.setCell ?_ (by first | omega | (simp <;> omega)) _) | (with_reducible refine Below.alloc ?_ (by first | omega | (simp <;> omega)) _) | (with_reducible refine Below.drew ?_) | (with_reducible exact Below.refl _ _) | (with_reducible exact hb1) | (with_reducible refine below_call ?_ (by assumption) (by first | omega | (simp <;> omega))) | (with_reducible refine below_call ?_ (Drew.below (by assumption) _) (by first | omega | (simp <;> omega)))))
    go_wp2
    go_ret
    exact ⟨rfl, hB1⟩
  | true =>
    simp only [if_true] at he h1
    by_cases h1000 : 1000 < n
    · rw [if_pos h1000] at he
      subst he
      have hz : (1000 : Int) < (n : Int) := by omega
      go_enter Try.func18, Try.ntmps18
      go_wp2_with fail
      refine (h1 _).mono ?_
      rintro e w1 ⟨rfl, hb1⟩
      have hz1 := hb1.size
      simp only [World.size_alloc] at hz1
      have hB1 : Below w.heap.size w w1 := (by (try show Below _ _ _); repeat (first | (with_reducible refine Below.setCell ?_ (by first | omega | (simp <;> omega)) _) | (with_reducible refine Below.alloc ?_ (by first | omega | (simp <;> omega)) _) | (with_reducible refine Below.drew ?_) | (with_reducible exact Below.refl _ _) | (with_reducible exact hb1) | (with_reducible refine below_call ?_ (by assumption) (by first | omega | (simp <;> omega))) | (with_reducible refine below_call ?_ (Drew.below (by assumption) _) (by first | omega | (simp <;> omega)))))
      go_wp2
      go_ret
      exact ⟨rfl, hB1⟩
    · rw [if_neg h1000] at he
      have hz : ¬ (1000 : Int) < (n : Int) := by omega
      have Hres := Lib.hid he
      clear he
      go_enter Try.func18, Try.ntmps18
      go_wp2_with fail
      refine (h1 _).mono ?_
      rintro e w1 ⟨rfl, hb1⟩
      have hz1 := hb1.size
      simp only [World.size_alloc] at hz1
      have hB1 : Below w.heap.size w w1 := (by (try show Below _ _ _); repeat (first | (with_reducible refine Below.setCell ?_ (by first | omega | (simp <;> omega)) _) | (with_reducible refine Below.alloc ?_ (by first | omega | (simp <;> omega)) _) | (with_reducible refine Below.drew ?_) | (with_reducible exact Below.refl _ _) | (with_reducible exact hb1) | (with_reducible refine below_call ?_ (by assumption) (by first | omega | (simp <;> omega))) | (with_reducible refine below_call ?_ (Drew.below (by assumption) _) (by first | omega | (simp <;> omega)))))
      go_wp2
      go_loopg [8] (n) (fun gg ii wr => ∃ k : Nat, k ≤ n ∧ n - k ≤ gg ∧ ii = .int .i64 k ∧ Aside (∀ j, j < k → okT (ts[j]?.getD R.d) = true) ∧ Aside (Below w.heap.size w wr))
      case atStart => exact ⟨0, Nat.zero_le _, Nat.le_refl _, rfl, (fun j hj => absurd hj (Nat.not_lt_zero _)), hB1⟩
      case round =>
        clear hB1 hz1 hb1
        obtain ⟨k, hk, hg, rfl, hall, hb⟩ := hrel
        have hbs := hb.out.size
        by_cases hlt : k < n
        · obtain ⟨b, o, rfl, _, hlb, hc⟩ := HX.out (by have := hn.out; omega)
          have x0 := (hb.out.cell (p := ⟨b, o + k * 2 + 0, none⟩) hlb).trans (hc k 0 (by have := hn.out; omega) (by omega))
          have x1 := (hb.out.cell (p := ⟨b, o + k * 2 + 1, none⟩) hlb).trans (hc k 1 (by have := hn.out; omega) (by omega))
          have hfa := allF_false okT R.d ts k (by have := hn.out; omega)
          clear hc
          generalize hxk : ts[k]?.getD R.d = x at x0 x1 hfa
          obtain ⟨p0, p1⟩ := x
          simp only [R.cell, Nat.add_zero, if_true, Nat.one_ne_zero, if_false] at x0 x1
          have Hfa := Lib.hid hfa
          have Hxk := Lib.hid hxk
          clear hfa hxk
          have hltz : (k : Int) < (n : Int) := by omega
          have hk0 : (0 : Int) ≤ (k : Int) := by omega
          have hR := fun W => refTemp_any p0 p1 W
          cases h0 : okT ⟨p0, p1⟩ with
          | false =>
            rw [h0] at hR
            have hr := Hres.out
            rw [if_neg (by rw [Hfa.out h0]; decide)] at hr
            have Hr := Lib.hid hr
            clear hr h0
            go_wp2_with fail
            refine (hR _).mono ?_
            rintro e w2 ⟨rfl, hb2⟩
            go_wp2
            go_ret
            exact ⟨by first | (rw [Hr.out]; done) | (rw [Hr.out]; rfl), below_call hb.out hb2 (by omega)⟩
          | true =>
            rw [h0] at hR
            have H0 := Lib.hid h0
            clear h0
            go_wp2_with fail
            refine (hR _).mono ?_
            rintro e w2 ⟨rfl, hb2⟩
            go_wp2
            go_roundg (n - (k + 1))
            case measure => omega
            case rel => exact ⟨k + 1, by omega, by omega, by go_num, (fun j hj => if e : j = k then (by subst e; rw [Hxk.out]; exact H0.out) else hall.out j (by omega)), below_call hb.out hb2 (by omega)⟩
        · have hltz : ¬ (k : Int) < (n : Int) := by omega
          have hr := Hres.out
          rw [if_pos (allF_true okT R.d ts (fun j hj => hall.out j (by have := hn.out; omega)))] at hr
          have Hr := Lib.hid hr
          clear hr
          go_wp2
          go_ret
          exact ⟨by first | (rw [Hr.out]; done) | (rw [Hr.out]; rfl), hb.out⟩

def hitT (r : TR) (m k : Int) : Prop := (m < r.frost ∧ k = 1) ∨ (r.frost ≤ m ∧ m ≤ r.thaw ∧ k = 2) ∨ (r.thaw < m ∧ k = 3)
theorem canT_hit {r : TR} (hr : TROk r) {lo hi : Int} (hl : lo ≤ hi) {k : Int} (hk : k = 1 ∨ k = 2 ∨ k = 3) : canT r lo hi k = true ↔ ∃ m, lo ≤ m ∧ m ≤ hi ∧ hitT r m k := by
  have := hr.f2
  unfold canT hitT
  rcases hk with rfl | rfl | rfl
  · simp
    exact ⟨fun h => ⟨lo, by omega, by omega, by omega⟩, fun ⟨m, h1, h2, h3⟩ => by omega⟩
  · simp
    exact ⟨fun h => ⟨max lo r.frost, by omega, by omega, by omega, by omega⟩, fun ⟨m, h1, h2, h3⟩ => by omega⟩
  · simp
    exact ⟨fun h => ⟨hi, by omega, by omega, by omega⟩, fun ⟨m, h1, h2, h3⟩ => by omega⟩

set_option maxHeartbeats 2000000 in
theorem refCan_any (r : TR) (hr : TROk r) (lo hi k : Int) (hok : okT ⟨lo, hi⟩ = true) (hk : k = 1 ∨ k = 2 ∨ k = 3) (w : World) :
    Calls Try.prog 23 #[rV r, .agg #[.int .i64 lo, .int .i64 hi], .int .i64 k] w fun e w' => e = .returned (.bool (canT r lo hi k)) ∧ Below w.heap.size w w' := by
  have hb0 : lo ≤ hi ∧ -600 ≤ lo ∧ hi ≤ 600 := by simp [okT, btw] at hok; omega
  have hch := canT_hit hr hb0.1 hk
  have hf := hr.f2
  generalize canT r lo hi k = can at hch ⊢
  have HC := Lib.hid hch
  unfold hitT at HC
  clear hch hok hr
  obtain ⟨r0, r1, r2, r3, r4, r5, r6, r7, r8, r9⟩ := r
  simp only at HC hf
  unfold rV
  obtain ⟨hb1, hb2, hb3⟩ := hb0
  go_enter Try.func23, Try.ntmps23
  go_wp2
  go_loopg [7] (1300) (fun gg v wr => ∃ m : Int, lo ≤ m ∧ m ≤ hi + 1 ∧ (hi + 1 - m).toNat ≤ gg ∧ v = .int .i64 m ∧ Aside (∀ m', lo ≤ m' → m' < m → ¬ ((m' < r0 ∧ k = 1) ∨ (r0 ≤ m' ∧ m' ≤ r1 ∧ k = 2) ∨ (r1 < m' ∧ k = 3))) ∧ Aside (Below w.heap.size w wr) ∧ w.heap.size + 2 ≤ wr.heap.size ∧
    wr.cell? ⟨w.heap.size, 0, none⟩ = some (.int .i64 r0) ∧ wr.cell? ⟨w.heap.size, 1, none⟩ = some (.int .i64 r1) ∧ wr.cell? ⟨w.heap.size + 1, 1, none⟩ = some (.int .i64 hi))
  case atStart => exact ⟨lo, by omega, by omega, by omega, rfl, (fun m' h1 h2 => by omega), (by (try show Below _ _ _); repeat (first | (with_reducible refine Below.setCell ?_ (by first | omega | (simp <;> omega)) _) | (with_reducible refine Below.alloc ?_ (by first | omega | (simp <;> omega)) _) | (with_reducible refine Below.drew ?_) | (with_reducible exact Below.refl _ _) | (with_reducible refine below_call ?_ (by assumption) (by first | omega | (simp <;> omega))) | (with_reducible refine below_call ?_ (Drew.below (by assumption) _) (by first | omega | (simp <;> omega))))), by simp, by simp [go_sem], by simp [go_sem], by simp [go_sem]⟩
  case round =>
    obtain ⟨m, hm1, hm2, hg, rfl, hno, hB, hsz, c0, c1, c2⟩ := hrel
    have hl1 : w.heap.size < wr.heap.size := by omega
    have hl2 : w.heap.size + 1 < wr.heap.size := by omega
    by_cases hle : m ≤ hi
    · have hgm := Lib.hid hg
      have w1 : wrap64 (m + 1) = m + 1 := IntWalk.wrap64_in _ ⟨by omega, by omega⟩
      rcases hk with rfl | rfl | rfl
      · by_cases h1 : m < r0
        · skip
          obtain rfl : can = true := (HC.out).2 ⟨m, hm1, hle, Or.inl ⟨h1, rfl⟩⟩
          go_wp2
          go_ret
          exact ⟨rfl, hB.out⟩
        · have h2 : r0 ≤ m := by omega
          by_cases h3 : m ≤ r1
          · have h4 : ¬ r1 < m := by omega
            go_wp2
            go_roundg ((hi + 1 - (m + 1)).toNat)
            case measure => have := hgm.out; omega
            case rel => exact ⟨m + 1, by omega, by omega, Nat.le_refl _, by first | rfl | (simp [w1]), (fun m' h1 h2 => if e : m' = m then (by subst e; omega) else hno.out m' h1 (by omega)), hB, hsz, c0, c1, c2⟩
          · have h4 : r1 < m := by omega
            go_wp2
            go_roundg ((hi + 1 - (m + 1)).toNat)
            case measure => have := hgm.out; omega
            case rel => exact ⟨m + 1, by omega, by omega, Nat.le_refl _, by first | rfl | (simp [w1]), (fun m' h1 h2 => if e : m' = m then (by subst e; omega) else hno.out m' h1 (by omega)), hB, hsz, c0, c1, c2⟩
      · by_cases h1 : m < r0
        · have h2 : ¬ r0 ≤ m := by omega
          have h3 : m ≤ r1 := by omega
          have h4 : ¬ r1 < m := by omega
          go_wp2
          go_roundg ((hi + 1 - (m + 1)).toNat)
          case measure => have := hgm.out; omega
          case rel => exact ⟨m + 1, by omega, by omega, Nat.le_refl _, by first | rfl | (simp [w1]), (fun m' h1 h2 => if e : m' = m then (by subst e; omega) else hno.out m' h1 (by omega)), hB, hsz, c0, c1, c2⟩
        · have h2 : r0 ≤ m := by omega
          by_cases h3 : m ≤ r1
          · skip
            obtain rfl : can = true := (HC.out).2 ⟨m, hm1, hle, Or.inr (Or.inl ⟨h2, h3, rfl⟩)⟩
            go_wp2
            go_ret
            exact ⟨rfl, hB.out⟩
          · have h4 : r1 < m := by omega
            go_wp2
            go_roundg ((hi + 1 - (m + 1)).toNat)
            case measure => have := hgm.out; omega
            case rel => exact ⟨m + 1, by omega, by omega, Nat.le_refl _, by first | rfl | (simp [w1]), (fun m' h1 h2 => if e : m' = m then (by subst e; omega) else hno.out m' h1 (by omega)), hB, hsz, c0, c1, c2⟩
      · by_cases h1 : m < r0
        · have h2 : ¬ r0 ≤ m := by omega
          have h3 : m ≤ r1 := by omega
          have h4 : ¬ r1 < m := by omega
          go_wp2
          go_roundg ((hi + 1 - (m + 1)).toNat)
          case measure => have := hgm.out; omega
          case rel => exact ⟨m + 1, by omega, by omega, Nat.le_refl _, by first | rfl | (simp [w1]), (fun m' h1 h2 => if e : m' = m then (by subst e; omega) else hno.out m' h1 (by omega)), hB, hsz, c0, c1, c2⟩
        · have h2 : r0 ≤ m := by omega
          by_cases h3 : m ≤ r1
          · have h4 : ¬ r1 < m := by omega
            go_wp2
            go_roundg ((hi + 1 - (m + 1)).toNat)
            case measure => have := hgm.out; omega
            case rel => exact ⟨m + 1, by omega, by omega, Nat.le_refl _, by first | rfl | (simp [w1]), (fun m' h1 h2 => if e : m' = m then (by subst e; omega) else hno.out m' h1 (by omega)), hB, hsz, c0, c1, c2⟩
          · have h4 : r1 < m := by omega
            obtain rfl : can = true := (HC.out).2 ⟨m, hm1, hle, Or.inr (Or.inr ⟨h4, rfl⟩)⟩
            go_wp2
            go_ret
            exact ⟨rfl, hB.out⟩
    · have hcn : can = false := by
        cases hcc : can with
        | false => rfl
        | true =>
          obtain ⟨m', h1, h2, h3⟩ := (HC.out).1 hcc
          exact absurd h3 (hno.out m' h1 (by omega))
      clear hno
      subst hcn
      go_wp2
      go_ret
      exact ⟨rfl, hB.out⟩

end Go.Proofs.Ytlkecgjpmnganaa
