/- Contracts: thaw.Fits. -/
import Derived.Test.YtlkecgjpmnganaaThFit1
import Derived.Test.YtlkecgjpmnganaaThWithin
set_option linter.unusedSimpArgs false
set_option linter.unusedVariables false
namespace Go.Proofs.Ytlkecgjpmnganaa
open Go.RowKit Go.Shelf

def okS (a : Int) : Bool := decide (0 ≤ a) && decide (a ≤ 2)
def errF (r : TR) (c i : Int) (ts : List R) (ls : List Int) : Int := if errT r c i ts = 0 then (if ls.length = ts.length then (if ls.all okS then 0 else 2) else 4) else errT r c i ts

set_option maxHeartbeats 400000 in
theorem fits1_pred (w : World) : PredB Try.prog 78 #[] (Value.int .i64) (fun a => !okS a) w := by
  intro k W _
  show Calls _ _ #[.int .i64 k] _ _
  by_cases h1 : k < 0
  · have e : (!okS k) = true := by simp [okS]; omega
    simp only [e]
    go_enter Try.func78, Try.ntmps78
    go_wp2
    go_ret
    exact ⟨rfl, (by (try show Below _ _ _); repeat (first | (with_reducible refine Below.setCell ?_ (by first | omega | (simp <;> omega)) _) | (with_reducible refine Below.alloc ?_ (by first | omega | (simp <;> omega)) _) | (with_reducible refine Below.drew ?_) | (with_reducible exact Below.refl _ _) | (with_reducible refine below_call ?_ (by assumption) (by first | omega | (simp <;> omega))) | (with_reducible refine below_call ?_ (Drew.below (by assumption) _) (by first | omega | (simp <;> omega)))))⟩
  · by_cases h2 : 2 < k
    · have e : (!okS k) = true := by simp [okS]; omega
      simp only [e]
      go_enter Try.func78, Try.ntmps78
      go_wp2
      go_ret
      exact ⟨rfl, (by (try show Below _ _ _); repeat (first | (with_reducible refine Below.setCell ?_ (by first | omega | (simp <;> omega)) _) | (with_reducible refine Below.alloc ?_ (by first | omega | (simp <;> omega)) _) | (with_reducible refine Below.drew ?_) | (with_reducible exact Below.refl _ _) | (with_reducible refine below_call ?_ (by assumption) (by first | omega | (simp <;> omega))) | (with_reducible refine below_call ?_ (Drew.below (by assumption) _) (by first | omega | (simp <;> omega)))))⟩
    · have e : (!okS k) = false := by simp [okS]; omega
      simp only [e]
      go_enter Try.func78, Try.ntmps78
      go_wp2
      go_ret
      exact ⟨rfl, (by (try show Below _ _ _); repeat (first | (with_reducible refine Below.setCell ?_ (by first | omega | (simp <;> omega)) _) | (with_reducible refine Below.alloc ?_ (by first | omega | (simp <;> omega)) _) | (with_reducible refine Below.drew ?_) | (with_reducible exact Below.refl _ _) | (with_reducible refine below_call ?_ (by assumption) (by first | omega | (simp <;> omega))) | (with_reducible refine below_call ?_ (Drew.below (by assumption) _) (by first | omega | (simp <;> omega)))))⟩

set_option maxHeartbeats 400000 in
theorem fits2_pred (b2 bi : Nat) (B : Addr) (n c k bd od : Nat) (sn : Int) (w : World) (hB : B = ⟨bd, od, none⟩) (hk : k < n) (hs : sn = 0 ∨ sn = 1 ∨ sn = 2)
    (h0 : w.cell? ⟨b2, 0, none⟩ = some (.slice (some B) n c)) (h1 : w.cell? ⟨bi, 0, none⟩ = some (.int .i64 (k : Int))) (h2 : w.cell? ⟨bd, od + k, none⟩ = some (.int .i64 sn)) (l0 : b2 < w.heap.size) (l1 : bi < w.heap.size) (l2 : bd < w.heap.size) :
    PredB Try.prog 79 #[.pointer (some ⟨b2, 0, none⟩), .pointer (some ⟨bi, 0, none⟩)] Value.bool (mayS sn) w := by
  subst hB
  intro b W hW
  show Calls _ _ #[.bool b, .pointer (some ⟨b2, 0, none⟩), .pointer (some ⟨bi, 0, none⟩)] _ _
  have k0 := (hW.cell (p := ⟨b2, 0, none⟩) l0).trans h0
  have k1 := (hW.cell (p := ⟨bi, 0, none⟩) l1).trans h1
  have k2 := (hW.cell (p := ⟨bd, od + k, none⟩) l2).trans h2
  have hlt : (k : Int) < (n : Int) := by omega
  have hge : (0 : Int) ≤ (k : Int) := Int.natCast_nonneg _
  rcases hs with rfl | rfl | rfl
  · have e : mayS 0 b = true := by cases b <;> rfl
    rw [e]
    go_enter Try.func79, Try.ntmps79
    go_wp2
    go_ret
    exact ⟨rfl, (by (try show Below _ _ _); repeat (first | (with_reducible refine Below.setCell ?_ (by first | omega | (simp <;> omega)) _) | (with_reducible refine Below.alloc ?_ (by first | omega | (simp <;> omega)) _) | (with_reducible refine Below.drew ?_) | (with_reducible exact Below.refl _ _) | (with_reducible refine below_call ?_ (by assumption) (by first | omega | (simp <;> omega))) | (with_reducible refine below_call ?_ (Drew.below (by assumption) _) (by first | omega | (simp <;> omega)))))⟩
  · have e : mayS 1 b = !b := by cases b <;> rfl
    rw [e]
    cases b
    · skip
      go_enter Try.func79, Try.ntmps79
      go_wp2
      go_ret
      exact ⟨rfl, (by (try show Below _ _ _); repeat (first | (with_reducible refine Below.setCell ?_ (by first | omega | (simp <;> omega)) _) | (with_reducible refine Below.alloc ?_ (by first | omega | (simp <;> omega)) _) | (with_reducible refine Below.drew ?_) | (with_reducible exact Below.refl _ _) | (with_reducible refine below_call ?_ (by assumption) (by first | omega | (simp <;> omega))) | (with_reducible refine below_call ?_ (Drew.below (by assumption) _) (by first | omega | (simp <;> omega)))))⟩
    · skip
      go_enter Try.func79, Try.ntmps79
      go_wp2
      go_ret
      exact ⟨rfl, (by (try show Below _ _ _); repeat (first | (with_reducible refine Below.setCell ?_ (by first | omega | (simp <;> omega)) _) | (with_reducible refine Below.alloc ?_ (by first | omega | (simp <;> omega)) _) | (with_reducible refine Below.drew ?_) | (with_reducible exact Below.refl _ _) | (with_reducible refine below_call ?_ (by assumption) (by first | omega | (simp <;> omega))) | (with_reducible refine below_call ?_ (Drew.below (by assumption) _) (by first | omega | (simp <;> omega)))))⟩
  · have e : mayS 2 b = b := by cases b <;> rfl
    rw [e]
    cases b
    · skip
      go_enter Try.func79, Try.ntmps79
      go_wp2
      go_ret
      exact ⟨rfl, (by (try show Below _ _ _); repeat (first | (with_reducible refine Below.setCell ?_ (by first | omega | (simp <;> omega)) _) | (with_reducible refine Below.alloc ?_ (by first | omega | (simp <;> omega)) _) | (with_reducible refine Below.drew ?_) | (with_reducible exact Below.refl _ _) | (with_reducible refine below_call ?_ (by assumption) (by first | omega | (simp <;> omega))) | (with_reducible refine below_call ?_ (Drew.below (by assumption) _) (by first | omega | (simp <;> omega)))))⟩
    · skip
      go_enter Try.func79, Try.ntmps79
      go_wp2
      go_ret
      exact ⟨rfl, (by (try show Below _ _ _); repeat (first | (with_reducible refine Below.setCell ?_ (by first | omega | (simp <;> omega)) _) | (with_reducible refine Below.alloc ?_ (by first | omega | (simp <;> omega)) _) | (with_reducible refine Below.drew ?_) | (with_reducible exact Below.refl _ _) | (with_reducible refine below_call ?_ (by assumption) (by first | omega | (simp <;> omega))) | (with_reducible refine below_call ?_ (Drew.below (by assumption) _) (by first | omega | (simp <;> omega)))))⟩

/-- behind Fits -/
def FitsPost (w : World) (er : Int) (x : Int × Cs) (e : Ending) (w' : World) : Prop := ∃ o, e = .returned (.tuple #[.int .i64 (if er = 0 then x.1 else 0), rgO o, .int .i64 er]) ∧ (er ≠ 0 → o = none) ∧ (er = 0 → Rep1 o (anyC x.2)) ∧ Below w.heap.size w w'

theorem okS_cases {a : Int} (h : okS a = true) : a = 0 ∨ a = 1 ∨ a = 2 := by simp [okS] at h; omega
theorem allS_eq (xs : List Int) : (xs.any fun a => !okS a) = !xs.all okS := by
  induction xs with
  | nil => rfl
  | cons x l ih => simp only [List.any_cons, List.all_cons, Bool.not_and] at ih ⊢; rw [ih]

set_option maxRecDepth 100000 in
set_option maxHeartbeats 2000000 in
theorem fits_any (r : TR) (c i : Int) (lo : Nat) (A : Option Addr) (n cc : Nat) (ts : List R) (lo2 : Nat) (B2 : Option Addr) (m c2 : Nat) (ls : List Int) (w : World)
    (hx : Ranges w lo A ts) (hn : Aside (ts.length = n)) (hl : n ≤ maxLen) (hy : Ints w lo2 B2 ls) (hm : Aside (ls.length = m)) (hl2 : m ≤ maxLen) :
    Calls Try.prog 40 #[rV r, .agg #[.int .i64 c, .int .i64 i], .slice A n cc, .slice B2 m c2] w (FitsPost w (errF r c i ts ls) (fitA r (seenZ ts ls) (oneC (c, i)) 0)) := by
  have h1 := fun (W : World) (hb : Below w.heap.size w W) => check_any r c i lo A n cc ts W (hx.below hb (Nat.le_refl _)) hn hl
  have eg1 : Enters Try.prog 78 := enters_of Try.func78 (by kernel_rfl) rfl
  have eg2 : Enters Try.prog 79 := enters_of Try.func79 (by kernel_rfl) rfl
  have h2 := fun (W : World) (hb : Below w.heap.size w W) => containsFunc_Seen 78 #[] (fun a => !okS a) lo2 B2 m c2 ls W eg1 (hy.below hb (Nat.le_refl _)) hm hl2 (fits1_pred W)
  rw [allS_eq] at h2
  have hrv : rV r = .agg #[.int .i64 r.frost, .int .i64 r.thaw, .int .i64 r.gain, .int .i64 r.full, .int .i64 r.ice, .int .i64 r.most, .int .i64 r.melt, .int .i64 r.rlow, .int .i64 r.rhigh, .int .i64 r.pull] := rfl
  rw [hrv] at h1 ⊢
  have HX : Aside (Ranges w lo A ts) := hx
  have HY : Aside (Ints w lo2 B2 ls) := hy
  have hnm : (ls.length = ts.length) = (m = n) := by rw [hm.out, hn.out]
  by_cases h0 : errT r c i ts = 0
  · have hef : errF r c i ts ls = if m = n then (if ls.all okS then 0 else 2) else 4 := by unfold errF; rw [if_pos h0]; simp only [hnm]
    obtain ⟨hr, hst, hlen, hok⟩ := errT_ok h0
    rw [h0] at h1
    by_cases hmn : m = n
    · rw [if_pos hmn] at hef
      subst hmn
      cases hal : ls.all okS with
      | false =>
        rw [hal, if_neg (by simp)] at hef
        rw [hef]
        rw [hal] at h2
        have hnn : ¬ ((m : Int) != (m : Int)) = true := by simp
        clear hx hy hef hal hnm hok h0 hrv
        go_enter Try.func40, Try.ntmps40
        go_wp2_with fail
        obtain ⟨E0, hNE0⟩ : ∃ X, X = w.alloc (.cells #[.int .i64 r.frost, .int .i64 r.thaw, .int .i64 r.gain, .int .i64 r.full, .int .i64 r.ice, .int .i64 r.most, .int .i64 r.melt, .int .i64 r.rlow, .int .i64 r.rhigh, .int .i64 r.pull] 25) := ⟨_, rfl⟩
        have hsE0 : E0.heap.size = w.heap.size + 1 := by rw [hNE0]; simp
        have hbE0 : Below w.heap.size w E0 := by rw [hNE0]; exact (Below.refl _ _).alloc (Nat.le_refl _) _
        have q0 : E0.cell? ⟨w.heap.size, 0, none⟩ = some (.int .i64 r.frost) := by rw [hNE0]; simp [go_sem]
        have q1 : E0.cell? ⟨w.heap.size, 1, none⟩ = some (.int .i64 r.thaw) := by rw [hNE0]; simp [go_sem]
        have q2 : E0.cell? ⟨w.heap.size, 2, none⟩ = some (.int .i64 r.gain) := by rw [hNE0]; simp [go_sem]
        have q3 : E0.cell? ⟨w.heap.size, 3, none⟩ = some (.int .i64 r.full) := by rw [hNE0]; simp [go_sem]
        have q4 : E0.cell? ⟨w.heap.size, 4, none⟩ = some (.int .i64 r.ice) := by rw [hNE0]; simp [go_sem]
        have q5 : E0.cell? ⟨w.heap.size, 5, none⟩ = some (.int .i64 r.most) := by rw [hNE0]; simp [go_sem]
        have q6 : E0.cell? ⟨w.heap.size, 6, none⟩ = some (.int .i64 r.melt) := by rw [hNE0]; simp [go_sem]
        have q7 : E0.cell? ⟨w.heap.size, 7, none⟩ = some (.int .i64 r.rlow) := by rw [hNE0]; simp [go_sem]
        have q8 : E0.cell? ⟨w.heap.size, 8, none⟩ = some (.int .i64 r.rhigh) := by rw [hNE0]; simp [go_sem]
        have q9 : E0.cell? ⟨w.heap.size, 9, none⟩ = some (.int .i64 r.pull) := by rw [hNE0]; simp [go_sem]
        rw [← hNE0]
        clear hNE0
        obtain ⟨E1, hNE1⟩ : ∃ X, X = E0.alloc (.cells #[.int .i64 c, .int .i64 i] 27) := ⟨_, rfl⟩
        have hsE1 : E1.heap.size = w.heap.size + 1 + 1 := by rw [hNE1]; simp; omega
        have hbE1 : Below E0.heap.size E0 E1 := by rw [hNE1]; exact (Below.refl _ _).alloc (Nat.le_refl _) _
        have s0 : E1.cell? ⟨w.heap.size + 1, 0, none⟩ = some (.int .i64 c) := by rw [hNE1, ← hsE0]; simp [go_sem]
        have s1 : E1.cell? ⟨w.heap.size + 1, 1, none⟩ = some (.int .i64 i) := by rw [hNE1, ← hsE0]; simp [go_sem]
        rw [← hNE1]
        clear hNE1
        obtain ⟨E2, hNE2⟩ : ∃ X, X = E1.alloc (.cells #[.slice B2 m c2] 79) := ⟨_, rfl⟩
        have hsE2 : E2.heap.size = w.heap.size + 1 + 1 + 1 := by rw [hNE2]; simp; omega
        have hbE2 : Below E1.heap.size E1 E2 := by rw [hNE2]; exact (Below.refl _ _).alloc (Nat.le_refl _) _
        have z0 : E2.cell? ⟨w.heap.size + 1 + 1, 0, none⟩ = some (.slice B2 m c2) := by rw [hNE2, ← hsE1]; simp [go_sem]
        rw [← hNE2]
        clear hNE2
        obtain ⟨E3, hNE3⟩ : ∃ X, X = E2.alloc (.cells #[.int .i64 0, .int .i64 0] 23) := ⟨_, rfl⟩
        have hsE3 : E3.heap.size = w.heap.size + 1 + 1 + 1 + 1 := by rw [hNE3]; simp; omega
        have hbE3 : Below E2.heap.size E2 E3 := by rw [hNE3]; exact (Below.refl _ _).alloc (Nat.le_refl _) _
        have u0 : E3.cell? ⟨w.heap.size + 1 + 1 + 1, 0, none⟩ = some (.int .i64 0) := by rw [hNE3, ← hsE2]; simp [go_sem]
        have u1 : E3.cell? ⟨w.heap.size + 1 + 1 + 1, 1, none⟩ = some (.int .i64 0) := by rw [hNE3, ← hsE2]; simp [go_sem]
        have v0 : E3.frozen? ⟨w.heap.size + 1 + 1 + 1, 0, none⟩ = false := by rw [hNE3, ← hsE2]; simp [go_sem]
        have v1 : E3.frozen? ⟨w.heap.size + 1 + 1 + 1, 1, none⟩ = false := by rw [hNE3, ← hsE2]; simp [go_sem]
        rw [← hNE3]
        clear hNE3
        have hcE2 : Below E2.heap.size E2 E3 := hbE3
        replace z0 := (hcE2.cell (p := ⟨w.heap.size + 1 + 1, 0, none⟩) (by show w.heap.size + 1 + 1 < _; omega)).trans z0
        have hcE1 : Below E1.heap.size E1 E3 := hbE2.trans (hcE2.mono hbE2.size)
        replace s0 := (hcE1.cell (p := ⟨w.heap.size + 1, 0, none⟩) (by show w.heap.size + 1 < _; omega)).trans s0
        replace s1 := (hcE1.cell (p := ⟨w.heap.size + 1, 1, none⟩) (by show w.heap.size + 1 < _; omega)).trans s1
        have hcE0 : Below E0.heap.size E0 E3 := hbE1.trans (hcE1.mono hbE1.size)
        replace q0 := (hcE0.cell (p := ⟨w.heap.size, 0, none⟩) (by show w.heap.size < _; omega)).trans q0
        replace q1 := (hcE0.cell (p := ⟨w.heap.size, 1, none⟩) (by show w.heap.size < _; omega)).trans q1
        replace q2 := (hcE0.cell (p := ⟨w.heap.size, 2, none⟩) (by show w.heap.size < _; omega)).trans q2
        replace q3 := (hcE0.cell (p := ⟨w.heap.size, 3, none⟩) (by show w.heap.size < _; omega)).trans q3
        replace q4 := (hcE0.cell (p := ⟨w.heap.size, 4, none⟩) (by show w.heap.size < _; omega)).trans q4
        replace q5 := (hcE0.cell (p := ⟨w.heap.size, 5, none⟩) (by show w.heap.size < _; omega)).trans q5
        replace q6 := (hcE0.cell (p := ⟨w.heap.size, 6, none⟩) (by show w.heap.size < _; omega)).trans q6
        replace q7 := (hcE0.cell (p := ⟨w.heap.size, 7, none⟩) (by show w.heap.size < _; omega)).trans q7
        replace q8 := (hcE0.cell (p := ⟨w.heap.size, 8, none⟩) (by show w.heap.size < _; omega)).trans q8
        replace q9 := (hcE0.cell (p := ⟨w.heap.size, 9, none⟩) (by show w.heap.size < _; omega)).trans q9
        have hBWE : Below w.heap.size w E3 := hbE0.trans (hcE0.mono hbE0.size)
        clear hcE0 hcE1 hcE2 hbE0 hbE1 hbE2 hbE3
        clear hsE0 hsE1 hsE2
        refine Calls.mono (h1 _ hBWE) ?_
        rintro e w1 ⟨rfl, hb1⟩
        have hz1 := hb1.size
        replace q0 := (hb1.cell (p := ⟨w.heap.size, 0, none⟩) (by show w.heap.size < _; omega)).trans q0
        replace q1 := (hb1.cell (p := ⟨w.heap.size, 1, none⟩) (by show w.heap.size < _; omega)).trans q1
        replace q2 := (hb1.cell (p := ⟨w.heap.size, 2, none⟩) (by show w.heap.size < _; omega)).trans q2
        replace q3 := (hb1.cell (p := ⟨w.heap.size, 3, none⟩) (by show w.heap.size < _; omega)).trans q3
        replace q4 := (hb1.cell (p := ⟨w.heap.size, 4, none⟩) (by show w.heap.size < _; omega)).trans q4
        replace q5 := (hb1.cell (p := ⟨w.heap.size, 5, none⟩) (by show w.heap.size < _; omega)).trans q5
        replace q6 := (hb1.cell (p := ⟨w.heap.size, 6, none⟩) (by show w.heap.size < _; omega)).trans q6
        replace q7 := (hb1.cell (p := ⟨w.heap.size, 7, none⟩) (by show w.heap.size < _; omega)).trans q7
        replace q8 := (hb1.cell (p := ⟨w.heap.size, 8, none⟩) (by show w.heap.size < _; omega)).trans q8
        replace q9 := (hb1.cell (p := ⟨w.heap.size, 9, none⟩) (by show w.heap.size < _; omega)).trans q9
        replace s0 := (hb1.cell (p := ⟨w.heap.size + 1, 0, none⟩) (by show w.heap.size + 1 < _; omega)).trans s0
        replace s1 := (hb1.cell (p := ⟨w.heap.size + 1, 1, none⟩) (by show w.heap.size + 1 < _; omega)).trans s1
        replace z0 := (hb1.cell (p := ⟨w.heap.size + 1 + 1, 0, none⟩) (by show w.heap.size + 1 + 1 < _; omega)).trans z0
        replace u0 := (hb1.cell (p := ⟨w.heap.size + 1 + 1 + 1, 0, none⟩) (by show w.heap.size + 1 + 1 + 1 < _; omega)).trans u0
        replace u1 := (hb1.cell (p := ⟨w.heap.size + 1 + 1 + 1, 1, none⟩) (by show w.heap.size + 1 + 1 + 1 < _; omega)).trans u1
        replace v0 := (hb1.frozen (p := ⟨w.heap.size + 1 + 1 + 1, 0, none⟩) (by show w.heap.size + 1 + 1 + 1 < _; omega)).trans v0
        replace v1 := (hb1.frozen (p := ⟨w.heap.size + 1 + 1 + 1, 1, none⟩) (by show w.heap.size + 1 + 1 + 1 < _; omega)).trans v1
        have hB1 : Below w.heap.size w w1 := hBWE.trans (hb1.mono hBWE.size)
        have hl0 : w.heap.size + 1 + 1 + 1 < w1.heap.size := by omega
        clear hb1 hBWE hsE3
        go_wp2_with fail
        refine Calls.mono (h2 _ hB1) ?_
        rintro e w2 ⟨rfl, hb2⟩
        have hz2 := hb2.size
        replace q0 := (hb2.cell (p := ⟨w.heap.size, 0, none⟩) (by show w.heap.size < _; omega)).trans q0
        replace q1 := (hb2.cell (p := ⟨w.heap.size, 1, none⟩) (by show w.heap.size < _; omega)).trans q1
        replace q2 := (hb2.cell (p := ⟨w.heap.size, 2, none⟩) (by show w.heap.size < _; omega)).trans q2
        replace q3 := (hb2.cell (p := ⟨w.heap.size, 3, none⟩) (by show w.heap.size < _; omega)).trans q3
        replace q4 := (hb2.cell (p := ⟨w.heap.size, 4, none⟩) (by show w.heap.size < _; omega)).trans q4
        replace q5 := (hb2.cell (p := ⟨w.heap.size, 5, none⟩) (by show w.heap.size < _; omega)).trans q5
        replace q6 := (hb2.cell (p := ⟨w.heap.size, 6, none⟩) (by show w.heap.size < _; omega)).trans q6
        replace q7 := (hb2.cell (p := ⟨w.heap.size, 7, none⟩) (by show w.heap.size < _; omega)).trans q7
        replace q8 := (hb2.cell (p := ⟨w.heap.size, 8, none⟩) (by show w.heap.size < _; omega)).trans q8
        replace q9 := (hb2.cell (p := ⟨w.heap.size, 9, none⟩) (by show w.heap.size < _; omega)).trans q9
        replace s0 := (hb2.cell (p := ⟨w.heap.size + 1, 0, none⟩) (by show w.heap.size + 1 < _; omega)).trans s0
        replace s1 := (hb2.cell (p := ⟨w.heap.size + 1, 1, none⟩) (by show w.heap.size + 1 < _; omega)).trans s1
        replace z0 := (hb2.cell (p := ⟨w.heap.size + 1 + 1, 0, none⟩) (by show w.heap.size + 1 + 1 < _; omega)).trans z0
        replace u0 := (hb2.cell (p := ⟨w.heap.size + 1 + 1 + 1, 0, none⟩) (by show w.heap.size + 1 + 1 + 1 < _; omega)).trans u0
        replace u1 := (hb2.cell (p := ⟨w.heap.size + 1 + 1 + 1, 1, none⟩) (by show w.heap.size + 1 + 1 + 1 < _; omega)).trans u1
        replace v0 := (hb2.frozen (p := ⟨w.heap.size + 1 + 1 + 1, 0, none⟩) (by show w.heap.size + 1 + 1 + 1 < _; omega)).trans v0
        replace v1 := (hb2.frozen (p := ⟨w.heap.size + 1 + 1 + 1, 1, none⟩) (by show w.heap.size + 1 + 1 + 1 < _; omega)).trans v1
        have hl2' : w.heap.size + 1 + 1 + 1 < w2.heap.size := by omega
        have hB2 : Below w.heap.size w w2 := hB1.trans (hb2.mono hB1.size)
        go_wp2
        refine bodyPost_ret (v := .tuple #[.int .i64 0, .agg #[.int .i64 0, .int .i64 0], .int .i64 2]) (by simp [results, Try.results40, go_sem, u0, u1, v0, v1, hl2']) rfl ⟨none, rfl, fun _ => rfl, fun h => absurd h (by omega), (by (try show Below _ _ _); repeat (first | (with_reducible refine Below.setCell ?_ (by first | omega | (simp <;> omega)) _) | (with_reducible refine Below.alloc ?_ (by first | omega | (simp <;> omega)) _) | (with_reducible refine Below.drew ?_) | (with_reducible exact Below.refl _ _) | (with_reducible exact hB2) | (with_reducible refine below_call ?_ (by assumption) (by first | omega | (simp <;> omega))) | (with_reducible refine below_call ?_ (Drew.below (by assumption) _) (by first | omega | (simp <;> omega)))))⟩
      | true =>
        rw [hal, if_pos rfl] at hef
        rw [hef]
        rw [hal] at h2
        obtain ⟨c, i, hc, hi, e⟩ := in_nat hr hst
        obtain ⟨rfl, rfl⟩ := Prod.mk.inj e
        have hin0 := oneC_in hst
        have HS : Aside (∀ k, k < m → okS (ls[k]?.getD 0) = true) := fun k hk => by
          have hk2 : k < ls.length := by have := hm.out; omega
          rw [List.getElem?_eq_getElem hk2, Option.getD_some]
          exact List.all_eq_true.1 hal _ (List.getElem_mem hk2)
        obtain ⟨⟨fa, fC⟩, hfr⟩ : ∃ x, fitA r (seenZ ts ls) (oneC ((c : Int), (i : Int))) 0 = x := ⟨_, rfl⟩
        rw [hfr]
        have HFR := Lib.hid hfr
        have hm1000 : m ≤ 1000 := by have := hn.out; omega
        have hnn : ¬ ((m : Int) != (m : Int)) = true := by simp
        have hfl := fun x y w => (run_fld2 x y (.bool true) w).1
        have hfl2 := fun x y w => (run_fld2 x y (.bool true) w).2
        clear hx hy hef hal hnm hok h0 hrv hfr e
        go_enter Try.func40, Try.ntmps40
        go_wp2_with fail
        obtain ⟨E0, hNE0⟩ : ∃ X, X = w.alloc (.cells #[.int .i64 r.frost, .int .i64 r.thaw, .int .i64 r.gain, .int .i64 r.full, .int .i64 r.ice, .int .i64 r.most, .int .i64 r.melt, .int .i64 r.rlow, .int .i64 r.rhigh, .int .i64 r.pull] 25) := ⟨_, rfl⟩
        have hsE0 : E0.heap.size = w.heap.size + 1 := by rw [hNE0]; simp
        have hbE0 : Below w.heap.size w E0 := by rw [hNE0]; exact (Below.refl _ _).alloc (Nat.le_refl _) _
        have q0 : E0.cell? ⟨w.heap.size, 0, none⟩ = some (.int .i64 r.frost) := by rw [hNE0]; simp [go_sem]
        have q1 : E0.cell? ⟨w.heap.size, 1, none⟩ = some (.int .i64 r.thaw) := by rw [hNE0]; simp [go_sem]
        have q2 : E0.cell? ⟨w.heap.size, 2, none⟩ = some (.int .i64 r.gain) := by rw [hNE0]; simp [go_sem]
        have q3 : E0.cell? ⟨w.heap.size, 3, none⟩ = some (.int .i64 r.full) := by rw [hNE0]; simp [go_sem]
        have q4 : E0.cell? ⟨w.heap.size, 4, none⟩ = some (.int .i64 r.ice) := by rw [hNE0]; simp [go_sem]
        have q5 : E0.cell? ⟨w.heap.size, 5, none⟩ = some (.int .i64 r.most) := by rw [hNE0]; simp [go_sem]
        have q6 : E0.cell? ⟨w.heap.size, 6, none⟩ = some (.int .i64 r.melt) := by rw [hNE0]; simp [go_sem]
        have q7 : E0.cell? ⟨w.heap.size, 7, none⟩ = some (.int .i64 r.rlow) := by rw [hNE0]; simp [go_sem]
        have q8 : E0.cell? ⟨w.heap.size, 8, none⟩ = some (.int .i64 r.rhigh) := by rw [hNE0]; simp [go_sem]
        have q9 : E0.cell? ⟨w.heap.size, 9, none⟩ = some (.int .i64 r.pull) := by rw [hNE0]; simp [go_sem]
        rw [← hNE0]
        clear hNE0
        obtain ⟨E1, hNE1⟩ : ∃ X, X = E0.alloc (.cells #[.int .i64 c, .int .i64 i] 27) := ⟨_, rfl⟩
        have hsE1 : E1.heap.size = w.heap.size + 1 + 1 := by rw [hNE1]; simp; omega
        have hbE1 : Below E0.heap.size E0 E1 := by rw [hNE1]; exact (Below.refl _ _).alloc (Nat.le_refl _) _
        have s0 : E1.cell? ⟨w.heap.size + 1, 0, none⟩ = some (.int .i64 c) := by rw [hNE1, ← hsE0]; simp [go_sem]
        have s1 : E1.cell? ⟨w.heap.size + 1, 1, none⟩ = some (.int .i64 i) := by rw [hNE1, ← hsE0]; simp [go_sem]
        rw [← hNE1]
        clear hNE1
        obtain ⟨E2, hNE2⟩ : ∃ X, X = E1.alloc (.cells #[.slice B2 m c2] 79) := ⟨_, rfl⟩
        have hsE2 : E2.heap.size = w.heap.size + 1 + 1 + 1 := by rw [hNE2]; simp; omega
        have hbE2 : Below E1.heap.size E1 E2 := by rw [hNE2]; exact (Below.refl _ _).alloc (Nat.le_refl _) _
        have z0 : E2.cell? ⟨w.heap.size + 1 + 1, 0, none⟩ = some (.slice B2 m c2) := by rw [hNE2, ← hsE1]; simp [go_sem]
        rw [← hNE2]
        clear hNE2
        obtain ⟨E3, hNE3⟩ : ∃ X, X = E2.alloc (.cells #[.int .i64 0, .int .i64 0] 23) := ⟨_, rfl⟩
        have hsE3 : E3.heap.size = w.heap.size + 1 + 1 + 1 + 1 := by rw [hNE3]; simp; omega
        have hbE3 : Below E2.heap.size E2 E3 := by rw [hNE3]; exact (Below.refl _ _).alloc (Nat.le_refl _) _
        have u0 : E3.cell? ⟨w.heap.size + 1 + 1 + 1, 0, none⟩ = some (.int .i64 0) := by rw [hNE3, ← hsE2]; simp [go_sem]
        have u1 : E3.cell? ⟨w.heap.size + 1 + 1 + 1, 1, none⟩ = some (.int .i64 0) := by rw [hNE3, ← hsE2]; simp [go_sem]
        have v0 : E3.frozen? ⟨w.heap.size + 1 + 1 + 1, 0, none⟩ = false := by rw [hNE3, ← hsE2]; simp [go_sem]
        have v1 : E3.frozen? ⟨w.heap.size + 1 + 1 + 1, 1, none⟩ = false := by rw [hNE3, ← hsE2]; simp [go_sem]
        rw [← hNE3]
        clear hNE3
        have hcE2 : Below E2.heap.size E2 E3 := hbE3
        replace z0 := (hcE2.cell (p := ⟨w.heap.size + 1 + 1, 0, none⟩) (by show w.heap.size + 1 + 1 < _; omega)).trans z0
        have hcE1 : Below E1.heap.size E1 E3 := hbE2.trans (hcE2.mono hbE2.size)
        replace s0 := (hcE1.cell (p := ⟨w.heap.size + 1, 0, none⟩) (by show w.heap.size + 1 < _; omega)).trans s0
        replace s1 := (hcE1.cell (p := ⟨w.heap.size + 1, 1, none⟩) (by show w.heap.size + 1 < _; omega)).trans s1
        have hcE0 : Below E0.heap.size E0 E3 := hbE1.trans (hcE1.mono hbE1.size)
        replace q0 := (hcE0.cell (p := ⟨w.heap.size, 0, none⟩) (by show w.heap.size < _; omega)).trans q0
        replace q1 := (hcE0.cell (p := ⟨w.heap.size, 1, none⟩) (by show w.heap.size < _; omega)).trans q1
        replace q2 := (hcE0.cell (p := ⟨w.heap.size, 2, none⟩) (by show w.heap.size < _; omega)).trans q2
        replace q3 := (hcE0.cell (p := ⟨w.heap.size, 3, none⟩) (by show w.heap.size < _; omega)).trans q3
        replace q4 := (hcE0.cell (p := ⟨w.heap.size, 4, none⟩) (by show w.heap.size < _; omega)).trans q4
        replace q5 := (hcE0.cell (p := ⟨w.heap.size, 5, none⟩) (by show w.heap.size < _; omega)).trans q5
        replace q6 := (hcE0.cell (p := ⟨w.heap.size, 6, none⟩) (by show w.heap.size < _; omega)).trans q6
        replace q7 := (hcE0.cell (p := ⟨w.heap.size, 7, none⟩) (by show w.heap.size < _; omega)).trans q7
        replace q8 := (hcE0.cell (p := ⟨w.heap.size, 8, none⟩) (by show w.heap.size < _; omega)).trans q8
        replace q9 := (hcE0.cell (p := ⟨w.heap.size, 9, none⟩) (by show w.heap.size < _; omega)).trans q9
        have hBWE : Below w.heap.size w E3 := hbE0.trans (hcE0.mono hbE0.size)
        clear hcE0 hcE1 hcE2 hbE0 hbE1 hbE2 hbE3
        clear hsE0 hsE1 hsE2
        refine Calls.mono (h1 _ hBWE) ?_
        rintro e w1 ⟨rfl, hb1⟩
        have hz1 := hb1.size
        replace q0 := (hb1.cell (p := ⟨w.heap.size, 0, none⟩) (by show w.heap.size < _; omega)).trans q0
        replace q1 := (hb1.cell (p := ⟨w.heap.size, 1, none⟩) (by show w.heap.size < _; omega)).trans q1
        replace q2 := (hb1.cell (p := ⟨w.heap.size, 2, none⟩) (by show w.heap.size < _; omega)).trans q2
        replace q3 := (hb1.cell (p := ⟨w.heap.size, 3, none⟩) (by show w.heap.size < _; omega)).trans q3
        replace q4 := (hb1.cell (p := ⟨w.heap.size, 4, none⟩) (by show w.heap.size < _; omega)).trans q4
        replace q5 := (hb1.cell (p := ⟨w.heap.size, 5, none⟩) (by show w.heap.size < _; omega)).trans q5
        replace q6 := (hb1.cell (p := ⟨w.heap.size, 6, none⟩) (by show w.heap.size < _; omega)).trans q6
        replace q7 := (hb1.cell (p := ⟨w.heap.size, 7, none⟩) (by show w.heap.size < _; omega)).trans q7
        replace q8 := (hb1.cell (p := ⟨w.heap.size, 8, none⟩) (by show w.heap.size < _; omega)).trans q8
        replace q9 := (hb1.cell (p := ⟨w.heap.size, 9, none⟩) (by show w.heap.size < _; omega)).trans q9
        replace s0 := (hb1.cell (p := ⟨w.heap.size + 1, 0, none⟩) (by show w.heap.size + 1 < _; omega)).trans s0
        replace s1 := (hb1.cell (p := ⟨w.heap.size + 1, 1, none⟩) (by show w.heap.size + 1 < _; omega)).trans s1
        replace z0 := (hb1.cell (p := ⟨w.heap.size + 1 + 1, 0, none⟩) (by show w.heap.size + 1 + 1 < _; omega)).trans z0
        replace u0 := (hb1.cell (p := ⟨w.heap.size + 1 + 1 + 1, 0, none⟩) (by show w.heap.size + 1 + 1 + 1 < _; omega)).trans u0
        replace u1 := (hb1.cell (p := ⟨w.heap.size + 1 + 1 + 1, 1, none⟩) (by show w.heap.size + 1 + 1 + 1 < _; omega)).trans u1
        replace v0 := (hb1.frozen (p := ⟨w.heap.size + 1 + 1 + 1, 0, none⟩) (by show w.heap.size + 1 + 1 + 1 < _; omega)).trans v0
        replace v1 := (hb1.frozen (p := ⟨w.heap.size + 1 + 1 + 1, 1, none⟩) (by show w.heap.size + 1 + 1 + 1 < _; omega)).trans v1
        have hB1 : Below w.heap.size w w1 := hBWE.trans (hb1.mono hBWE.size)
        have hl0 : w.heap.size + 1 + 1 + 1 < w1.heap.size := by omega
        clear hb1 hBWE hsE3
        go_wp2_with fail
        refine Calls.mono (h2 _ hB1) ?_
        rintro e w2 ⟨rfl, hb2⟩
        have hz2 := hb2.size
        replace q0 := (hb2.cell (p := ⟨w.heap.size, 0, none⟩) (by show w.heap.size < _; omega)).trans q0
        replace q1 := (hb2.cell (p := ⟨w.heap.size, 1, none⟩) (by show w.heap.size < _; omega)).trans q1
        replace q2 := (hb2.cell (p := ⟨w.heap.size, 2, none⟩) (by show w.heap.size < _; omega)).trans q2
        replace q3 := (hb2.cell (p := ⟨w.heap.size, 3, none⟩) (by show w.heap.size < _; omega)).trans q3
        replace q4 := (hb2.cell (p := ⟨w.heap.size, 4, none⟩) (by show w.heap.size < _; omega)).trans q4
        replace q5 := (hb2.cell (p := ⟨w.heap.size, 5, none⟩) (by show w.heap.size < _; omega)).trans q5
        replace q6 := (hb2.cell (p := ⟨w.heap.size, 6, none⟩) (by show w.heap.size < _; omega)).trans q6
        replace q7 := (hb2.cell (p := ⟨w.heap.size, 7, none⟩) (by show w.heap.size < _; omega)).trans q7
        replace q8 := (hb2.cell (p := ⟨w.heap.size, 8, none⟩) (by show w.heap.size < _; omega)).trans q8
        replace q9 := (hb2.cell (p := ⟨w.heap.size, 9, none⟩) (by show w.heap.size < _; omega)).trans q9
        replace s0 := (hb2.cell (p := ⟨w.heap.size + 1, 0, none⟩) (by show w.heap.size + 1 < _; omega)).trans s0
        replace s1 := (hb2.cell (p := ⟨w.heap.size + 1, 1, none⟩) (by show w.heap.size + 1 < _; omega)).trans s1
        replace z0 := (hb2.cell (p := ⟨w.heap.size + 1 + 1, 0, none⟩) (by show w.heap.size + 1 + 1 < _; omega)).trans z0
        replace u0 := (hb2.cell (p := ⟨w.heap.size + 1 + 1 + 1, 0, none⟩) (by show w.heap.size + 1 + 1 + 1 < _; omega)).trans u0
        replace u1 := (hb2.cell (p := ⟨w.heap.size + 1 + 1 + 1, 1, none⟩) (by show w.heap.size + 1 + 1 + 1 < _; omega)).trans u1
        replace v0 := (hb2.frozen (p := ⟨w.heap.size + 1 + 1 + 1, 0, none⟩) (by show w.heap.size + 1 + 1 + 1 < _; omega)).trans v0
        replace v1 := (hb2.frozen (p := ⟨w.heap.size + 1 + 1 + 1, 1, none⟩) (by show w.heap.size + 1 + 1 + 1 < _; omega)).trans v1
        have hB2 : Below w.heap.size w w2 := hB1.trans (hb2.mono hB1.size)
        go_wp2_with fail
        refine Calls.mono (from_any c i (by omega) (by omega) _) ?_
        rintro e w3 ⟨bF, rfl, hFa, hFb, hF3, hV3, hb3⟩
        have hz3 := hb3.size
        replace q0 := (hb3.cell (p := ⟨w.heap.size, 0, none⟩) (by show w.heap.size < _; omega)).trans q0
        replace q1 := (hb3.cell (p := ⟨w.heap.size, 1, none⟩) (by show w.heap.size < _; omega)).trans q1
        replace q2 := (hb3.cell (p := ⟨w.heap.size, 2, none⟩) (by show w.heap.size < _; omega)).trans q2
        replace q3 := (hb3.cell (p := ⟨w.heap.size, 3, none⟩) (by show w.heap.size < _; omega)).trans q3
        replace q4 := (hb3.cell (p := ⟨w.heap.size, 4, none⟩) (by show w.heap.size < _; omega)).trans q4
        replace q5 := (hb3.cell (p := ⟨w.heap.size, 5, none⟩) (by show w.heap.size < _; omega)).trans q5
        replace q6 := (hb3.cell (p := ⟨w.heap.size, 6, none⟩) (by show w.heap.size < _; omega)).trans q6
        replace q7 := (hb3.cell (p := ⟨w.heap.size, 7, none⟩) (by show w.heap.size < _; omega)).trans q7
        replace q8 := (hb3.cell (p := ⟨w.heap.size, 8, none⟩) (by show w.heap.size < _; omega)).trans q8
        replace q9 := (hb3.cell (p := ⟨w.heap.size, 9, none⟩) (by show w.heap.size < _; omega)).trans q9
        replace z0 := (hb3.cell (p := ⟨w.heap.size + 1 + 1, 0, none⟩) (by show w.heap.size + 1 + 1 < _; omega)).trans z0
        replace u0 := (hb3.cell (p := ⟨w.heap.size + 1 + 1 + 1, 0, none⟩) (by show w.heap.size + 1 + 1 + 1 < _; omega)).trans u0
        replace u1 := (hb3.cell (p := ⟨w.heap.size + 1 + 1 + 1, 1, none⟩) (by show w.heap.size + 1 + 1 + 1 < _; omega)).trans u1
        replace v0 := (hb3.frozen (p := ⟨w.heap.size + 1 + 1 + 1, 0, none⟩) (by show w.heap.size + 1 + 1 + 1 < _; omega)).trans v0
        replace v1 := (hb3.frozen (p := ⟨w.heap.size + 1 + 1 + 1, 1, none⟩) (by show w.heap.size + 1 + 1 + 1 < _; omega)).trans v1
        have hB3 : Below w.heap.size w w3 := hB2.trans (hb3.mono hB2.size)
        have hl3 : w.heap.size + 1 + 1 + 1 < w3.heap.size := by omega
        clear hb2 hb3 hz2 hB1 hB2 hz1 hl0 s0 s1
        go_wp2_with fail
        go_loopg [12, 36] (m) (fun gg f ii wr => ∃ (k b' : Nat) (G' : Fl) (C' : Cs), k ≤ m ∧ m - k ≤ gg ∧ ii = .int .i64 k ∧ f = .pointer (some ⟨b', 0, none⟩) ∧ Aside (b' < wr.heap.size ∧ Fld wr b' G' ∧ Rep G' C' ∧ CIn r C' ∧ (∀ s q, C' s q → 0 ≤ q ∧ q ≤ (k : Int)) ∧ fitA r ((seenZ ts ls).drop k) C' k = (fa, fC)) ∧ Aside (Below w3.heap.size w3 wr))
        case atStart => exact ⟨0, bF, _, _, Nat.zero_le _, Nat.le_refl _, rfl, rfl, ⟨hFb, hF3, one_rep _, hin0, fun s q h => oneC_bd _ s q h, HFR.out⟩, Below.refl _ _⟩
        case round =>
          obtain ⟨k, b', G', C', hk, hg, rfl, rfl, hF, hB⟩ := hrel
          obtain ⟨hlb', hFl, hRp, hCI, hCB, hfa⟩ := hF.out
          have hbs := hB.out.size
          have hB4 : Below w.heap.size w wr := hB3.trans (hB.out.mono hB3.size)
          have Hfa := Lib.hid hfa
          clear hF hfa
          replace q0 := (hB.out.cell (p := ⟨w.heap.size, 0, none⟩) (by show w.heap.size < _; omega)).trans q0
          replace q1 := (hB.out.cell (p := ⟨w.heap.size, 1, none⟩) (by show w.heap.size < _; omega)).trans q1
          replace q2 := (hB.out.cell (p := ⟨w.heap.size, 2, none⟩) (by show w.heap.size < _; omega)).trans q2
          replace q3 := (hB.out.cell (p := ⟨w.heap.size, 3, none⟩) (by show w.heap.size < _; omega)).trans q3
          replace q4 := (hB.out.cell (p := ⟨w.heap.size, 4, none⟩) (by show w.heap.size < _; omega)).trans q4
          replace q5 := (hB.out.cell (p := ⟨w.heap.size, 5, none⟩) (by show w.heap.size < _; omega)).trans q5
          replace q6 := (hB.out.cell (p := ⟨w.heap.size, 6, none⟩) (by show w.heap.size < _; omega)).trans q6
          replace q7 := (hB.out.cell (p := ⟨w.heap.size, 7, none⟩) (by show w.heap.size < _; omega)).trans q7
          replace q8 := (hB.out.cell (p := ⟨w.heap.size, 8, none⟩) (by show w.heap.size < _; omega)).trans q8
          replace q9 := (hB.out.cell (p := ⟨w.heap.size, 9, none⟩) (by show w.heap.size < _; omega)).trans q9
          replace z0 := (hB.out.cell (p := ⟨w.heap.size + 1 + 1, 0, none⟩) (by show w.heap.size + 1 + 1 < _; omega)).trans z0
          replace u0 := (hB.out.cell (p := ⟨w.heap.size + 1 + 1 + 1, 0, none⟩) (by show w.heap.size + 1 + 1 + 1 < _; omega)).trans u0
          replace u1 := (hB.out.cell (p := ⟨w.heap.size + 1 + 1 + 1, 1, none⟩) (by show w.heap.size + 1 + 1 + 1 < _; omega)).trans u1
          replace v0 := (hB.out.frozen (p := ⟨w.heap.size + 1 + 1 + 1, 0, none⟩) (by show w.heap.size + 1 + 1 + 1 < _; omega)).trans v0
          replace v1 := (hB.out.frozen (p := ⟨w.heap.size + 1 + 1 + 1, 1, none⟩) (by show w.heap.size + 1 + 1 + 1 < _; omega)).trans v1
          have hl4 : w.heap.size + 1 + 1 + 1 < wr.heap.size := by omega
          by_cases hlt : k < m
          · obtain ⟨bb, oo, hAA, _, hlb, hcs⟩ := HX.out (by have := hn.out; omega)
            subst hAA
            obtain ⟨bd, od, hBB, _, hld, hds⟩ := HY.out (by have := hm.out; omega)
            subst hBB
            have e0 := (hB4.cell (p := ⟨bb, oo + k * 2 + 0, none⟩) hlb).trans (hcs k 0 (by have := hn.out; omega) (by omega))
            have e1 := (hB4.cell (p := ⟨bb, oo + k * 2 + 1, none⟩) hlb).trans (hcs k 1 (by have := hn.out; omega) (by omega))
            have f0 := (hB4.cell (p := ⟨bd, od + k, none⟩) hld).trans (hds k (by have := hm.out; omega))
            have hdr := seenZ_drop ts ls k (by have := hn.out; omega) (by have := hm.out; omega)
            have hsn := okS_cases (HS.out k hlt)
            have hfa := Hfa.out
            rw [hdr] at hfa
            generalize ts[k]?.getD R.d = t at e0 e1 hfa
            generalize ls[k]?.getD 0 = sn at f0 hfa hsn
            obtain ⟨tl, th⟩ := t
            simp only [R.cell, Nat.add_zero, if_true, Nat.one_ne_zero, if_false] at e0 e1
            simp only [pr] at hfa
            replace Hfa := Lib.hid hfa
            have Hsn := Lib.hid hsn
            clear hfa hdr hcs hds hsn
            have hltz : (k : Int) < (m : Int) := by omega
            have hi0 : (0 : Int) ≤ (k : Int) := Int.natCast_nonneg _
            have hlbr : bb < wr.heap.size := by have := hB4.size; omega
            have hldr : bd < wr.heap.size := by have := hB4.size; omega
            go_upto_region 12 with fail
            obtain ⟨I0, hNI0⟩ : ∃ X, X = wr.alloc (.cells #[.int .i64 (k : Int)] 3) := ⟨_, rfl⟩
            have hsI0 : I0.heap.size = wr.heap.size + 1 := by rw [hNI0]; simp
            have hbI0 : Below wr.heap.size wr I0 := by rw [hNI0]; exact (Below.refl _ _).alloc (Nat.le_refl _) _
            have j0 : I0.cell? ⟨wr.heap.size, 0, none⟩ = some (.int .i64 (k : Int)) := by rw [hNI0]; simp [go_sem]
            rw [← hNI0]
            clear hNI0
            obtain ⟨I1, hNI1⟩ : ∃ X, X = I0.alloc (.cells #[.int .i64 tl, .int .i64 th] 23) := ⟨_, rfl⟩
            have hsI1 : I1.heap.size = wr.heap.size + 1 + 1 := by rw [hNI1]; simp; omega
            have hbI1 : Below I0.heap.size I0 I1 := by rw [hNI1]; exact (Below.refl _ _).alloc (Nat.le_refl _) _
            have t0 : I1.cell? ⟨wr.heap.size + 1, 0, none⟩ = some (.int .i64 tl) := by rw [hNI1, ← hsI0]; simp [go_sem]
            have t1 : I1.cell? ⟨wr.heap.size + 1, 1, none⟩ = some (.int .i64 th) := by rw [hNI1, ← hsI0]; simp [go_sem]
            rw [← hNI1]
            clear hNI1
            have hcI0 : Below I0.heap.size I0 I1 := hbI1
            replace j0 := (hcI0.cell (p := ⟨wr.heap.size, 0, none⟩) (by show wr.heap.size < _; omega)).trans j0
            have hBWI : Below wr.heap.size wr I1 := hbI0.trans (hcI0.mono hbI0.size)
            clear hcI0 hbI0 hbI1
            clear hsI0
            replace f0 := (hBWI.cell (p := ⟨bd, od + k, none⟩) (by show bd < _; omega)).trans f0
            replace q0 := (hBWI.cell (p := ⟨w.heap.size, 0, none⟩) (by show w.heap.size < _; omega)).trans q0
            replace q1 := (hBWI.cell (p := ⟨w.heap.size, 1, none⟩) (by show w.heap.size < _; omega)).trans q1
            replace q2 := (hBWI.cell (p := ⟨w.heap.size, 2, none⟩) (by show w.heap.size < _; omega)).trans q2
            replace q3 := (hBWI.cell (p := ⟨w.heap.size, 3, none⟩) (by show w.heap.size < _; omega)).trans q3
            replace q4 := (hBWI.cell (p := ⟨w.heap.size, 4, none⟩) (by show w.heap.size < _; omega)).trans q4
            replace q5 := (hBWI.cell (p := ⟨w.heap.size, 5, none⟩) (by show w.heap.size < _; omega)).trans q5
            replace q6 := (hBWI.cell (p := ⟨w.heap.size, 6, none⟩) (by show w.heap.size < _; omega)).trans q6
            replace q7 := (hBWI.cell (p := ⟨w.heap.size, 7, none⟩) (by show w.heap.size < _; omega)).trans q7
            replace q8 := (hBWI.cell (p := ⟨w.heap.size, 8, none⟩) (by show w.heap.size < _; omega)).trans q8
            replace q9 := (hBWI.cell (p := ⟨w.heap.size, 9, none⟩) (by show w.heap.size < _; omega)).trans q9
            replace z0 := (hBWI.cell (p := ⟨w.heap.size + 1 + 1, 0, none⟩) (by show w.heap.size + 1 + 1 < _; omega)).trans z0
            replace u0 := (hBWI.cell (p := ⟨w.heap.size + 1 + 1 + 1, 0, none⟩) (by show w.heap.size + 1 + 1 + 1 < _; omega)).trans u0
            replace u1 := (hBWI.cell (p := ⟨w.heap.size + 1 + 1 + 1, 1, none⟩) (by show w.heap.size + 1 + 1 + 1 < _; omega)).trans u1
            replace v0 := (hBWI.frozen (p := ⟨w.heap.size + 1 + 1 + 1, 0, none⟩) (by show w.heap.size + 1 + 1 + 1 < _; omega)).trans v0
            replace v1 := (hBWI.frozen (p := ⟨w.heap.size + 1 + 1 + 1, 1, none⟩) (by show w.heap.size + 1 + 1 + 1 < _; omega)).trans v1
            have hlI : w.heap.size + 1 + 1 + 1 < I1.heap.size := by omega
            have hpred := fits2_pred (w.heap.size + 1 + 1) wr.heap.size ⟨bd, od, none⟩ m c2 k bd od sn I1 rfl hlt Hsn.out z0 j0 f0 (by omega) (by omega) (by omega)
            have hBI : Below w.heap.size w I1 := hB4.trans (hBWI.mono hB4.size)
            go_wp2_with fail
            refine Calls.mono (hour_any r hr b' G' C' tl th 79 _ (mayS sn) _ (by omega) (hFl.below hBWI (by omega)) hRp hCI (fun s q h => by have := hCB s q h; omega) eg2 hpred) ?_
            rintro e w5 ⟨b5, G5, rfl, h5a, h5b, hF5, hV5, hR5, hb5⟩
            have hz5 := hb5.size
            replace q0 := (hb5.cell (p := ⟨w.heap.size, 0, none⟩) (by show w.heap.size < _; omega)).trans q0
            replace q1 := (hb5.cell (p := ⟨w.heap.size, 1, none⟩) (by show w.heap.size < _; omega)).trans q1
            replace q2 := (hb5.cell (p := ⟨w.heap.size, 2, none⟩) (by show w.heap.size < _; omega)).trans q2
            replace q3 := (hb5.cell (p := ⟨w.heap.size, 3, none⟩) (by show w.heap.size < _; omega)).trans q3
            replace q4 := (hb5.cell (p := ⟨w.heap.size, 4, none⟩) (by show w.heap.size < _; omega)).trans q4
            replace q5 := (hb5.cell (p := ⟨w.heap.size, 5, none⟩) (by show w.heap.size < _; omega)).trans q5
            replace q6 := (hb5.cell (p := ⟨w.heap.size, 6, none⟩) (by show w.heap.size < _; omega)).trans q6
            replace q7 := (hb5.cell (p := ⟨w.heap.size, 7, none⟩) (by show w.heap.size < _; omega)).trans q7
            replace q8 := (hb5.cell (p := ⟨w.heap.size, 8, none⟩) (by show w.heap.size < _; omega)).trans q8
            replace q9 := (hb5.cell (p := ⟨w.heap.size, 9, none⟩) (by show w.heap.size < _; omega)).trans q9
            replace z0 := (hb5.cell (p := ⟨w.heap.size + 1 + 1, 0, none⟩) (by show w.heap.size + 1 + 1 < _; omega)).trans z0
            replace u0 := (hb5.cell (p := ⟨w.heap.size + 1 + 1 + 1, 0, none⟩) (by show w.heap.size + 1 + 1 + 1 < _; omega)).trans u0
            replace u1 := (hb5.cell (p := ⟨w.heap.size + 1 + 1 + 1, 1, none⟩) (by show w.heap.size + 1 + 1 + 1 < _; omega)).trans u1
            replace v0 := (hb5.frozen (p := ⟨w.heap.size + 1 + 1 + 1, 0, none⟩) (by show w.heap.size + 1 + 1 + 1 < _; omega)).trans v0
            replace v1 := (hb5.frozen (p := ⟨w.heap.size + 1 + 1 + 1, 1, none⟩) (by show w.heap.size + 1 + 1 + 1 < _; omega)).trans v1
            replace j0 := (hb5.cell (p := ⟨wr.heap.size, 0, none⟩) (by show wr.heap.size < _; omega)).trans j0
            have hB5 : Below w.heap.size w w5 := hBI.trans (hb5.mono hBI.size)
            go_wp2_with fail
            refine Calls.mono (all_any b5 G5 _ h5b hF5) ?_
            rintro e w6 ⟨rfl, hb6⟩
            have hz6 := hb6.size
            replace q0 := (hb6.cell (p := ⟨w.heap.size, 0, none⟩) (by show w.heap.size < _; omega)).trans q0
            replace q1 := (hb6.cell (p := ⟨w.heap.size, 1, none⟩) (by show w.heap.size < _; omega)).trans q1
            replace q2 := (hb6.cell (p := ⟨w.heap.size, 2, none⟩) (by show w.heap.size < _; omega)).trans q2
            replace q3 := (hb6.cell (p := ⟨w.heap.size, 3, none⟩) (by show w.heap.size < _; omega)).trans q3
            replace q4 := (hb6.cell (p := ⟨w.heap.size, 4, none⟩) (by show w.heap.size < _; omega)).trans q4
            replace q5 := (hb6.cell (p := ⟨w.heap.size, 5, none⟩) (by show w.heap.size < _; omega)).trans q5
            replace q6 := (hb6.cell (p := ⟨w.heap.size, 6, none⟩) (by show w.heap.size < _; omega)).trans q6
            replace q7 := (hb6.cell (p := ⟨w.heap.size, 7, none⟩) (by show w.heap.size < _; omega)).trans q7
            replace q8 := (hb6.cell (p := ⟨w.heap.size, 8, none⟩) (by show w.heap.size < _; omega)).trans q8
            replace q9 := (hb6.cell (p := ⟨w.heap.size, 9, none⟩) (by show w.heap.size < _; omega)).trans q9
            replace z0 := (hb6.cell (p := ⟨w.heap.size + 1 + 1, 0, none⟩) (by show w.heap.size + 1 + 1 < _; omega)).trans z0
            replace u0 := (hb6.cell (p := ⟨w.heap.size + 1 + 1 + 1, 0, none⟩) (by show w.heap.size + 1 + 1 + 1 < _; omega)).trans u0
            replace u1 := (hb6.cell (p := ⟨w.heap.size + 1 + 1 + 1, 1, none⟩) (by show w.heap.size + 1 + 1 + 1 < _; omega)).trans u1
            replace v0 := (hb6.frozen (p := ⟨w.heap.size + 1 + 1 + 1, 0, none⟩) (by show w.heap.size + 1 + 1 + 1 < _; omega)).trans v0
            replace v1 := (hb6.frozen (p := ⟨w.heap.size + 1 + 1 + 1, 1, none⟩) (by show w.heap.size + 1 + 1 + 1 < _; omega)).trans v1
            replace j0 := (hb6.cell (p := ⟨wr.heap.size, 0, none⟩) (by show wr.heap.size < _; omega)).trans j0
            have hB6 : Below w.heap.size w w6 := hB5.trans (hb6.mono hB5.size)
            have hl6 : w.heap.size + 1 + 1 + 1 < w6.heap.size := by omega
            have hCI9 := hourC_in hr hCI tl th (mayS sn)
            have hCB9 : ∀ s q, hourC r tl th (mayS sn) C' s q → 0 ≤ q ∧ q ≤ ((k + 1 : Nat) : Int) := fun s q h => by have := hourC_bd hCB tl th (mayS sn) s q h; omega
            have ha := all_rep hr hR5 hCI9
            generalize sumC (come G5 1891) = o at ha
            rcases o with _ | ⟨x, y⟩
            · have hfin := Hfa.out
              rw [fitA_none _ _ _ _ _ (rep_none ha)] at hfin
              obtain ⟨rfl, rfl⟩ := Prod.mk.inj hfin
              clear hfin ha
              simp only [cV]
              go_wp2
              refine bodyPost_ret (v := .tuple #[.int .i64 (k : Int), .agg #[.int .i64 0, .int .i64 0], .int .i64 0]) (by simp [results, Try.results40, go_sem, u0, u1, v0, v1, hl6]) rfl ⟨none, by rw [if_pos rfl]; rfl, fun h => absurd rfl h, fun _ q => by rintro ⟨s, h⟩; exact h, (by (try show Below _ _ _); repeat (first | (with_reducible refine Below.setCell ?_ (by first | omega | (simp <;> omega)) _) | (with_reducible refine Below.alloc ?_ (by first | omega | (simp <;> omega)) _) | (with_reducible refine Below.drew ?_) | (with_reducible exact Below.refl _ _) | (with_reducible exact hB6) | (with_reducible refine below_call ?_ (by assumption) (by first | omega | (simp <;> omega))) | (with_reducible refine below_call ?_ (Drew.below (by assumption) _) (by first | omega | (simp <;> omega)))))⟩
            · have hne := rep_any ha
              have Hne := Lib.hid hne
              clear ha hne
              simp only [cV]
              go_wp2
              go_roundg (m - (k + 1))
              case measure => omega
              case rel =>
                have hfin := Hfa.out
                rw [fitA_some _ _ _ _ _ Hne.out] at hfin
                exact ⟨k + 1, b5, G5, _, by omega, by omega, by go_num, rfl, ⟨by omega, hF5.below hb6 h5b, hR5, hCI9, hCB9, hfin⟩, hB.out.trans ((hBWI.trans ((hb5.trans (hb6.mono (by omega))).mono (by omega))).mono (by omega))⟩
          · have hltz : ¬ (k : Int) < (m : Int) := by omega
            obtain rfl : k = m := by omega
            have hfin := Hfa.out
            rw [List.drop_eq_nil_of_le (by unfold seenZ; have := hn.out; simp; omega)] at hfin
            obtain ⟨rfl, rfl⟩ := Prod.mk.inj hfin
            clear hfin
            go_wp2_with fail
            refine Calls.mono (all_any b' G' _ hlb' hFl) ?_
            rintro e w6 ⟨rfl, hb6⟩
            have hz6 := hb6.size
            replace q0 := (hb6.cell (p := ⟨w.heap.size, 0, none⟩) (by show w.heap.size < _; omega)).trans q0
            replace q1 := (hb6.cell (p := ⟨w.heap.size, 1, none⟩) (by show w.heap.size < _; omega)).trans q1
            replace q2 := (hb6.cell (p := ⟨w.heap.size, 2, none⟩) (by show w.heap.size < _; omega)).trans q2
            replace q3 := (hb6.cell (p := ⟨w.heap.size, 3, none⟩) (by show w.heap.size < _; omega)).trans q3
            replace q4 := (hb6.cell (p := ⟨w.heap.size, 4, none⟩) (by show w.heap.size < _; omega)).trans q4
            replace q5 := (hb6.cell (p := ⟨w.heap.size, 5, none⟩) (by show w.heap.size < _; omega)).trans q5
            replace q6 := (hb6.cell (p := ⟨w.heap.size, 6, none⟩) (by show w.heap.size < _; omega)).trans q6
            replace q7 := (hb6.cell (p := ⟨w.heap.size, 7, none⟩) (by show w.heap.size < _; omega)).trans q7
            replace q8 := (hb6.cell (p := ⟨w.heap.size, 8, none⟩) (by show w.heap.size < _; omega)).trans q8
            replace q9 := (hb6.cell (p := ⟨w.heap.size, 9, none⟩) (by show w.heap.size < _; omega)).trans q9
            replace z0 := (hb6.cell (p := ⟨w.heap.size + 1 + 1, 0, none⟩) (by show w.heap.size + 1 + 1 < _; omega)).trans z0
            replace u0 := (hb6.cell (p := ⟨w.heap.size + 1 + 1 + 1, 0, none⟩) (by show w.heap.size + 1 + 1 + 1 < _; omega)).trans u0
            replace u1 := (hb6.cell (p := ⟨w.heap.size + 1 + 1 + 1, 1, none⟩) (by show w.heap.size + 1 + 1 + 1 < _; omega)).trans u1
            replace v0 := (hb6.frozen (p := ⟨w.heap.size + 1 + 1 + 1, 0, none⟩) (by show w.heap.size + 1 + 1 + 1 < _; omega)).trans v0
            replace v1 := (hb6.frozen (p := ⟨w.heap.size + 1 + 1 + 1, 1, none⟩) (by show w.heap.size + 1 + 1 + 1 < _; omega)).trans v1
            have ha := all_rep hr hRp hCI
            generalize sumC (come G' 1891) = o at ha
            have Ha := Lib.hid ha
            clear ha
            go_wp2_with fail
            refine Calls.mono (hours_any o _) ?_
            rintro e w7 ⟨rfl, hb7⟩
            have hz7 := hb7.size
            replace q0 := (hb7.cell (p := ⟨w.heap.size, 0, none⟩) (by show w.heap.size < _; omega)).trans q0
            replace q1 := (hb7.cell (p := ⟨w.heap.size, 1, none⟩) (by show w.heap.size < _; omega)).trans q1
            replace q2 := (hb7.cell (p := ⟨w.heap.size, 2, none⟩) (by show w.heap.size < _; omega)).trans q2
            replace q3 := (hb7.cell (p := ⟨w.heap.size, 3, none⟩) (by show w.heap.size < _; omega)).trans q3
            replace q4 := (hb7.cell (p := ⟨w.heap.size, 4, none⟩) (by show w.heap.size < _; omega)).trans q4
            replace q5 := (hb7.cell (p := ⟨w.heap.size, 5, none⟩) (by show w.heap.size < _; omega)).trans q5
            replace q6 := (hb7.cell (p := ⟨w.heap.size, 6, none⟩) (by show w.heap.size < _; omega)).trans q6
            replace q7 := (hb7.cell (p := ⟨w.heap.size, 7, none⟩) (by show w.heap.size < _; omega)).trans q7
            replace q8 := (hb7.cell (p := ⟨w.heap.size, 8, none⟩) (by show w.heap.size < _; omega)).trans q8
            replace q9 := (hb7.cell (p := ⟨w.heap.size, 9, none⟩) (by show w.heap.size < _; omega)).trans q9
            replace z0 := (hb7.cell (p := ⟨w.heap.size + 1 + 1, 0, none⟩) (by show w.heap.size + 1 + 1 < _; omega)).trans z0
            replace u0 := (hb7.cell (p := ⟨w.heap.size + 1 + 1 + 1, 0, none⟩) (by show w.heap.size + 1 + 1 + 1 < _; omega)).trans u0
            replace u1 := (hb7.cell (p := ⟨w.heap.size + 1 + 1 + 1, 1, none⟩) (by show w.heap.size + 1 + 1 + 1 < _; omega)).trans u1
            replace v0 := (hb7.frozen (p := ⟨w.heap.size + 1 + 1 + 1, 0, none⟩) (by show w.heap.size + 1 + 1 + 1 < _; omega)).trans v0
            replace v1 := (hb7.frozen (p := ⟨w.heap.size + 1 + 1 + 1, 1, none⟩) (by show w.heap.size + 1 + 1 + 1 < _; omega)).trans v1
            have hB7 : Below w.heap.size w w7 := hB4.trans ((hb6.trans (hb7.mono (by omega))).mono hB4.size)
            have hl7 : w.heap.size + 1 + 1 + 1 < w7.heap.size := by omega
            have hrg : Value.agg #[fC o 0, fC o 1] = rgO o := by cases o <;> rfl
            obtain ⟨x, y, hxy⟩ : ∃ x y, rgO o = .agg #[.int .i64 x, .int .i64 y] := ⟨_, _, rfl⟩
            rw [hrg, hxy]
            have Hxy := Lib.hid hxy
            clear hxy hrg
            go_wp2
            refine bodyPost_ret (v := .tuple #[.int .i64 (-1), .agg #[.int .i64 x, .int .i64 y], .int .i64 0]) (by simp [results, Try.results40, go_sem, u0, u1, v0, v1, hl7]) rfl ⟨o, by rw [if_pos rfl, Hxy.out], fun h => absurd rfl h, fun _ => Ha.out, (by (try show Below _ _ _); repeat (first | (with_reducible refine Below.setCell ?_ (by first | omega | (simp <;> omega)) _) | (with_reducible refine Below.alloc ?_ (by first | omega | (simp <;> omega)) _) | (with_reducible refine Below.drew ?_) | (with_reducible exact Below.refl _ _) | (with_reducible exact hB7) | (with_reducible refine below_call ?_ (by assumption) (by first | omega | (simp <;> omega))) | (with_reducible refine below_call ?_ (Drew.below (by assumption) _) (by first | omega | (simp <;> omega)))))⟩
    · rw [if_neg hmn] at hef
      rw [hef]
      have hnn : ¬ (m : Int) = (n : Int) := by omega
      clear hx hy hef hnm hok h0 hrv
      go_enter Try.func40, Try.ntmps40
      go_wp2_with fail
      obtain ⟨E0, hNE0⟩ : ∃ X, X = w.alloc (.cells #[.int .i64 r.frost, .int .i64 r.thaw, .int .i64 r.gain, .int .i64 r.full, .int .i64 r.ice, .int .i64 r.most, .int .i64 r.melt, .int .i64 r.rlow, .int .i64 r.rhigh, .int .i64 r.pull] 25) := ⟨_, rfl⟩
      have hsE0 : E0.heap.size = w.heap.size + 1 := by rw [hNE0]; simp
      have hbE0 : Below w.heap.size w E0 := by rw [hNE0]; exact (Below.refl _ _).alloc (Nat.le_refl _) _
      have q0 : E0.cell? ⟨w.heap.size, 0, none⟩ = some (.int .i64 r.frost) := by rw [hNE0]; simp [go_sem]
      have q1 : E0.cell? ⟨w.heap.size, 1, none⟩ = some (.int .i64 r.thaw) := by rw [hNE0]; simp [go_sem]
      have q2 : E0.cell? ⟨w.heap.size, 2, none⟩ = some (.int .i64 r.gain) := by rw [hNE0]; simp [go_sem]
      have q3 : E0.cell? ⟨w.heap.size, 3, none⟩ = some (.int .i64 r.full) := by rw [hNE0]; simp [go_sem]
      have q4 : E0.cell? ⟨w.heap.size, 4, none⟩ = some (.int .i64 r.ice) := by rw [hNE0]; simp [go_sem]
      have q5 : E0.cell? ⟨w.heap.size, 5, none⟩ = some (.int .i64 r.most) := by rw [hNE0]; simp [go_sem]
      have q6 : E0.cell? ⟨w.heap.size, 6, none⟩ = some (.int .i64 r.melt) := by rw [hNE0]; simp [go_sem]
      have q7 : E0.cell? ⟨w.heap.size, 7, none⟩ = some (.int .i64 r.rlow) := by rw [hNE0]; simp [go_sem]
      have q8 : E0.cell? ⟨w.heap.size, 8, none⟩ = some (.int .i64 r.rhigh) := by rw [hNE0]; simp [go_sem]
      have q9 : E0.cell? ⟨w.heap.size, 9, none⟩ = some (.int .i64 r.pull) := by rw [hNE0]; simp [go_sem]
      rw [← hNE0]
      clear hNE0
      obtain ⟨E1, hNE1⟩ : ∃ X, X = E0.alloc (.cells #[.int .i64 c, .int .i64 i] 27) := ⟨_, rfl⟩
      have hsE1 : E1.heap.size = w.heap.size + 1 + 1 := by rw [hNE1]; simp; omega
      have hbE1 : Below E0.heap.size E0 E1 := by rw [hNE1]; exact (Below.refl _ _).alloc (Nat.le_refl _) _
      have s0 : E1.cell? ⟨w.heap.size + 1, 0, none⟩ = some (.int .i64 c) := by rw [hNE1, ← hsE0]; simp [go_sem]
      have s1 : E1.cell? ⟨w.heap.size + 1, 1, none⟩ = some (.int .i64 i) := by rw [hNE1, ← hsE0]; simp [go_sem]
      rw [← hNE1]
      clear hNE1
      obtain ⟨E2, hNE2⟩ : ∃ X, X = E1.alloc (.cells #[.slice B2 m c2] 79) := ⟨_, rfl⟩
      have hsE2 : E2.heap.size = w.heap.size + 1 + 1 + 1 := by rw [hNE2]; simp; omega
      have hbE2 : Below E1.heap.size E1 E2 := by rw [hNE2]; exact (Below.refl _ _).alloc (Nat.le_refl _) _
      have z0 : E2.cell? ⟨w.heap.size + 1 + 1, 0, none⟩ = some (.slice B2 m c2) := by rw [hNE2, ← hsE1]; simp [go_sem]
      rw [← hNE2]
      clear hNE2
      obtain ⟨E3, hNE3⟩ : ∃ X, X = E2.alloc (.cells #[.int .i64 0, .int .i64 0] 23) := ⟨_, rfl⟩
      have hsE3 : E3.heap.size = w.heap.size + 1 + 1 + 1 + 1 := by rw [hNE3]; simp; omega
      have hbE3 : Below E2.heap.size E2 E3 := by rw [hNE3]; exact (Below.refl _ _).alloc (Nat.le_refl _) _
      have u0 : E3.cell? ⟨w.heap.size + 1 + 1 + 1, 0, none⟩ = some (.int .i64 0) := by rw [hNE3, ← hsE2]; simp [go_sem]
      have u1 : E3.cell? ⟨w.heap.size + 1 + 1 + 1, 1, none⟩ = some (.int .i64 0) := by rw [hNE3, ← hsE2]; simp [go_sem]
      have v0 : E3.frozen? ⟨w.heap.size + 1 + 1 + 1, 0, none⟩ = false := by rw [hNE3, ← hsE2]; simp [go_sem]
      have v1 : E3.frozen? ⟨w.heap.size + 1 + 1 + 1, 1, none⟩ = false := by rw [hNE3, ← hsE2]; simp [go_sem]
      rw [← hNE3]
      clear hNE3
      have hcE2 : Below E2.heap.size E2 E3 := hbE3
      replace z0 := (hcE2.cell (p := ⟨w.heap.size + 1 + 1, 0, none⟩) (by show w.heap.size + 1 + 1 < _; omega)).trans z0
      have hcE1 : Below E1.heap.size E1 E3 := hbE2.trans (hcE2.mono hbE2.size)
      replace s0 := (hcE1.cell (p := ⟨w.heap.size + 1, 0, none⟩) (by show w.heap.size + 1 < _; omega)).trans s0
      replace s1 := (hcE1.cell (p := ⟨w.heap.size + 1, 1, none⟩) (by show w.heap.size + 1 < _; omega)).trans s1
      have hcE0 : Below E0.heap.size E0 E3 := hbE1.trans (hcE1.mono hbE1.size)
      replace q0 := (hcE0.cell (p := ⟨w.heap.size, 0, none⟩) (by show w.heap.size < _; omega)).trans q0
      replace q1 := (hcE0.cell (p := ⟨w.heap.size, 1, none⟩) (by show w.heap.size < _; omega)).trans q1
      replace q2 := (hcE0.cell (p := ⟨w.heap.size, 2, none⟩) (by show w.heap.size < _; omega)).trans q2
      replace q3 := (hcE0.cell (p := ⟨w.heap.size, 3, none⟩) (by show w.heap.size < _; omega)).trans q3
      replace q4 := (hcE0.cell (p := ⟨w.heap.size, 4, none⟩) (by show w.heap.size < _; omega)).trans q4
      replace q5 := (hcE0.cell (p := ⟨w.heap.size, 5, none⟩) (by show w.heap.size < _; omega)).trans q5
      replace q6 := (hcE0.cell (p := ⟨w.heap.size, 6, none⟩) (by show w.heap.size < _; omega)).trans q6
      replace q7 := (hcE0.cell (p := ⟨w.heap.size, 7, none⟩) (by show w.heap.size < _; omega)).trans q7
      replace q8 := (hcE0.cell (p := ⟨w.heap.size, 8, none⟩) (by show w.heap.size < _; omega)).trans q8
      replace q9 := (hcE0.cell (p := ⟨w.heap.size, 9, none⟩) (by show w.heap.size < _; omega)).trans q9
      have hBWE : Below w.heap.size w E3 := hbE0.trans (hcE0.mono hbE0.size)
      clear hcE0 hcE1 hcE2 hbE0 hbE1 hbE2 hbE3
      clear hsE0 hsE1 hsE2
      refine Calls.mono (h1 _ hBWE) ?_
      rintro e w1 ⟨rfl, hb1⟩
      have hz1 := hb1.size
      replace q0 := (hb1.cell (p := ⟨w.heap.size, 0, none⟩) (by show w.heap.size < _; omega)).trans q0
      replace q1 := (hb1.cell (p := ⟨w.heap.size, 1, none⟩) (by show w.heap.size < _; omega)).trans q1
      replace q2 := (hb1.cell (p := ⟨w.heap.size, 2, none⟩) (by show w.heap.size < _; omega)).trans q2
      replace q3 := (hb1.cell (p := ⟨w.heap.size, 3, none⟩) (by show w.heap.size < _; omega)).trans q3
      replace q4 := (hb1.cell (p := ⟨w.heap.size, 4, none⟩) (by show w.heap.size < _; omega)).trans q4
      replace q5 := (hb1.cell (p := ⟨w.heap.size, 5, none⟩) (by show w.heap.size < _; omega)).trans q5
      replace q6 := (hb1.cell (p := ⟨w.heap.size, 6, none⟩) (by show w.heap.size < _; omega)).trans q6
      replace q7 := (hb1.cell (p := ⟨w.heap.size, 7, none⟩) (by show w.heap.size < _; omega)).trans q7
      replace q8 := (hb1.cell (p := ⟨w.heap.size, 8, none⟩) (by show w.heap.size < _; omega)).trans q8
      replace q9 := (hb1.cell (p := ⟨w.heap.size, 9, none⟩) (by show w.heap.size < _; omega)).trans q9
      replace s0 := (hb1.cell (p := ⟨w.heap.size + 1, 0, none⟩) (by show w.heap.size + 1 < _; omega)).trans s0
      replace s1 := (hb1.cell (p := ⟨w.heap.size + 1, 1, none⟩) (by show w.heap.size + 1 < _; omega)).trans s1
      replace z0 := (hb1.cell (p := ⟨w.heap.size + 1 + 1, 0, none⟩) (by show w.heap.size + 1 + 1 < _; omega)).trans z0
      replace u0 := (hb1.cell (p := ⟨w.heap.size + 1 + 1 + 1, 0, none⟩) (by show w.heap.size + 1 + 1 + 1 < _; omega)).trans u0
      replace u1 := (hb1.cell (p := ⟨w.heap.size + 1 + 1 + 1, 1, none⟩) (by show w.heap.size + 1 + 1 + 1 < _; omega)).trans u1
      replace v0 := (hb1.frozen (p := ⟨w.heap.size + 1 + 1 + 1, 0, none⟩) (by show w.heap.size + 1 + 1 + 1 < _; omega)).trans v0
      replace v1 := (hb1.frozen (p := ⟨w.heap.size + 1 + 1 + 1, 1, none⟩) (by show w.heap.size + 1 + 1 + 1 < _; omega)).trans v1
      have hB1 : Below w.heap.size w w1 := hBWE.trans (hb1.mono hBWE.size)
      have hl0 : w.heap.size + 1 + 1 + 1 < w1.heap.size := by omega
      clear hb1 hBWE hsE3
      go_wp2
      refine bodyPost_ret (v := .tuple #[.int .i64 0, .agg #[.int .i64 0, .int .i64 0], .int .i64 4]) (by simp [results, Try.results40, go_sem, u0, u1, v0, v1, hl0]) rfl ⟨none, rfl, fun _ => rfl, fun h => absurd h (by omega), (by (try show Below _ _ _); repeat (first | (with_reducible refine Below.setCell ?_ (by first | omega | (simp <;> omega)) _) | (with_reducible refine Below.alloc ?_ (by first | omega | (simp <;> omega)) _) | (with_reducible refine Below.drew ?_) | (with_reducible exact Below.refl _ _) | (with_reducible exact hB1) | (with_reducible refine below_call ?_ (by assumption) (by first | omega | (simp <;> omega))) | (with_reducible refine below_call ?_ (Drew.below (by assumption) _) (by first | omega | (simp <;> omega)))))⟩
  · have hef : errF r c i ts ls = errT r c i ts := by unfold errF; rw [if_neg h0]
    rw [hef]
    generalize errT r c i ts = er at h0 h1
    have h0' : (er == 0) = false := by simpa using h0
    clear hx hy hef hnm hrv
    go_enter Try.func40, Try.ntmps40
    go_wp2_with fail
    obtain ⟨E0, hNE0⟩ : ∃ X, X = w.alloc (.cells #[.int .i64 r.frost, .int .i64 r.thaw, .int .i64 r.gain, .int .i64 r.full, .int .i64 r.ice, .int .i64 r.most, .int .i64 r.melt, .int .i64 r.rlow, .int .i64 r.rhigh, .int .i64 r.pull] 25) := ⟨_, rfl⟩
    have hsE0 : E0.heap.size = w.heap.size + 1 := by rw [hNE0]; simp
    have hbE0 : Below w.heap.size w E0 := by rw [hNE0]; exact (Below.refl _ _).alloc (Nat.le_refl _) _
    have q0 : E0.cell? ⟨w.heap.size, 0, none⟩ = some (.int .i64 r.frost) := by rw [hNE0]; simp [go_sem]
    have q1 : E0.cell? ⟨w.heap.size, 1, none⟩ = some (.int .i64 r.thaw) := by rw [hNE0]; simp [go_sem]
    have q2 : E0.cell? ⟨w.heap.size, 2, none⟩ = some (.int .i64 r.gain) := by rw [hNE0]; simp [go_sem]
    have q3 : E0.cell? ⟨w.heap.size, 3, none⟩ = some (.int .i64 r.full) := by rw [hNE0]; simp [go_sem]
    have q4 : E0.cell? ⟨w.heap.size, 4, none⟩ = some (.int .i64 r.ice) := by rw [hNE0]; simp [go_sem]
    have q5 : E0.cell? ⟨w.heap.size, 5, none⟩ = some (.int .i64 r.most) := by rw [hNE0]; simp [go_sem]
    have q6 : E0.cell? ⟨w.heap.size, 6, none⟩ = some (.int .i64 r.melt) := by rw [hNE0]; simp [go_sem]
    have q7 : E0.cell? ⟨w.heap.size, 7, none⟩ = some (.int .i64 r.rlow) := by rw [hNE0]; simp [go_sem]
    have q8 : E0.cell? ⟨w.heap.size, 8, none⟩ = some (.int .i64 r.rhigh) := by rw [hNE0]; simp [go_sem]
    have q9 : E0.cell? ⟨w.heap.size, 9, none⟩ = some (.int .i64 r.pull) := by rw [hNE0]; simp [go_sem]
    rw [← hNE0]
    clear hNE0
    obtain ⟨E1, hNE1⟩ : ∃ X, X = E0.alloc (.cells #[.int .i64 c, .int .i64 i] 27) := ⟨_, rfl⟩
    have hsE1 : E1.heap.size = w.heap.size + 1 + 1 := by rw [hNE1]; simp; omega
    have hbE1 : Below E0.heap.size E0 E1 := by rw [hNE1]; exact (Below.refl _ _).alloc (Nat.le_refl _) _
    have s0 : E1.cell? ⟨w.heap.size + 1, 0, none⟩ = some (.int .i64 c) := by rw [hNE1, ← hsE0]; simp [go_sem]
    have s1 : E1.cell? ⟨w.heap.size + 1, 1, none⟩ = some (.int .i64 i) := by rw [hNE1, ← hsE0]; simp [go_sem]
    rw [← hNE1]
    clear hNE1
    obtain ⟨E2, hNE2⟩ : ∃ X, X = E1.alloc (.cells #[.slice B2 m c2] 79) := ⟨_, rfl⟩
    have hsE2 : E2.heap.size = w.heap.size + 1 + 1 + 1 := by rw [hNE2]; simp; omega
    have hbE2 : Below E1.heap.size E1 E2 := by rw [hNE2]; exact (Below.refl _ _).alloc (Nat.le_refl _) _
    have z0 : E2.cell? ⟨w.heap.size + 1 + 1, 0, none⟩ = some (.slice B2 m c2) := by rw [hNE2, ← hsE1]; simp [go_sem]
    rw [← hNE2]
    clear hNE2
    obtain ⟨E3, hNE3⟩ : ∃ X, X = E2.alloc (.cells #[.int .i64 0, .int .i64 0] 23) := ⟨_, rfl⟩
    have hsE3 : E3.heap.size = w.heap.size + 1 + 1 + 1 + 1 := by rw [hNE3]; simp; omega
    have hbE3 : Below E2.heap.size E2 E3 := by rw [hNE3]; exact (Below.refl _ _).alloc (Nat.le_refl _) _
    have u0 : E3.cell? ⟨w.heap.size + 1 + 1 + 1, 0, none⟩ = some (.int .i64 0) := by rw [hNE3, ← hsE2]; simp [go_sem]
    have u1 : E3.cell? ⟨w.heap.size + 1 + 1 + 1, 1, none⟩ = some (.int .i64 0) := by rw [hNE3, ← hsE2]; simp [go_sem]
    have v0 : E3.frozen? ⟨w.heap.size + 1 + 1 + 1, 0, none⟩ = false := by rw [hNE3, ← hsE2]; simp [go_sem]
    have v1 : E3.frozen? ⟨w.heap.size + 1 + 1 + 1, 1, none⟩ = false := by rw [hNE3, ← hsE2]; simp [go_sem]
    rw [← hNE3]
    clear hNE3
    have hcE2 : Below E2.heap.size E2 E3 := hbE3
    replace z0 := (hcE2.cell (p := ⟨w.heap.size + 1 + 1, 0, none⟩) (by show w.heap.size + 1 + 1 < _; omega)).trans z0
    have hcE1 : Below E1.heap.size E1 E3 := hbE2.trans (hcE2.mono hbE2.size)
    replace s0 := (hcE1.cell (p := ⟨w.heap.size + 1, 0, none⟩) (by show w.heap.size + 1 < _; omega)).trans s0
    replace s1 := (hcE1.cell (p := ⟨w.heap.size + 1, 1, none⟩) (by show w.heap.size + 1 < _; omega)).trans s1
    have hcE0 : Below E0.heap.size E0 E3 := hbE1.trans (hcE1.mono hbE1.size)
    replace q0 := (hcE0.cell (p := ⟨w.heap.size, 0, none⟩) (by show w.heap.size < _; omega)).trans q0
    replace q1 := (hcE0.cell (p := ⟨w.heap.size, 1, none⟩) (by show w.heap.size < _; omega)).trans q1
    replace q2 := (hcE0.cell (p := ⟨w.heap.size, 2, none⟩) (by show w.heap.size < _; omega)).trans q2
    replace q3 := (hcE0.cell (p := ⟨w.heap.size, 3, none⟩) (by show w.heap.size < _; omega)).trans q3
    replace q4 := (hcE0.cell (p := ⟨w.heap.size, 4, none⟩) (by show w.heap.size < _; omega)).trans q4
    replace q5 := (hcE0.cell (p := ⟨w.heap.size, 5, none⟩) (by show w.heap.size < _; omega)).trans q5
    replace q6 := (hcE0.cell (p := ⟨w.heap.size, 6, none⟩) (by show w.heap.size < _; omega)).trans q6
    replace q7 := (hcE0.cell (p := ⟨w.heap.size, 7, none⟩) (by show w.heap.size < _; omega)).trans q7
    replace q8 := (hcE0.cell (p := ⟨w.heap.size, 8, none⟩) (by show w.heap.size < _; omega)).trans q8
    replace q9 := (hcE0.cell (p := ⟨w.heap.size, 9, none⟩) (by show w.heap.size < _; omega)).trans q9
    have hBWE : Below w.heap.size w E3 := hbE0.trans (hcE0.mono hbE0.size)
    clear hcE0 hcE1 hcE2 hbE0 hbE1 hbE2 hbE3
    clear hsE0 hsE1 hsE2
    refine Calls.mono (h1 _ hBWE) ?_
    rintro e w1 ⟨rfl, hb1⟩
    have hz1 := hb1.size
    replace q0 := (hb1.cell (p := ⟨w.heap.size, 0, none⟩) (by show w.heap.size < _; omega)).trans q0
    replace q1 := (hb1.cell (p := ⟨w.heap.size, 1, none⟩) (by show w.heap.size < _; omega)).trans q1
    replace q2 := (hb1.cell (p := ⟨w.heap.size, 2, none⟩) (by show w.heap.size < _; omega)).trans q2
    replace q3 := (hb1.cell (p := ⟨w.heap.size, 3, none⟩) (by show w.heap.size < _; omega)).trans q3
    replace q4 := (hb1.cell (p := ⟨w.heap.size, 4, none⟩) (by show w.heap.size < _; omega)).trans q4
    replace q5 := (hb1.cell (p := ⟨w.heap.size, 5, none⟩) (by show w.heap.size < _; omega)).trans q5
    replace q6 := (hb1.cell (p := ⟨w.heap.size, 6, none⟩) (by show w.heap.size < _; omega)).trans q6
    replace q7 := (hb1.cell (p := ⟨w.heap.size, 7, none⟩) (by show w.heap.size < _; omega)).trans q7
    replace q8 := (hb1.cell (p := ⟨w.heap.size, 8, none⟩) (by show w.heap.size < _; omega)).trans q8
    replace q9 := (hb1.cell (p := ⟨w.heap.size, 9, none⟩) (by show w.heap.size < _; omega)).trans q9
    replace s0 := (hb1.cell (p := ⟨w.heap.size + 1, 0, none⟩) (by show w.heap.size + 1 < _; omega)).trans s0
    replace s1 := (hb1.cell (p := ⟨w.heap.size + 1, 1, none⟩) (by show w.heap.size + 1 < _; omega)).trans s1
    replace z0 := (hb1.cell (p := ⟨w.heap.size + 1 + 1, 0, none⟩) (by show w.heap.size + 1 + 1 < _; omega)).trans z0
    replace u0 := (hb1.cell (p := ⟨w.heap.size + 1 + 1 + 1, 0, none⟩) (by show w.heap.size + 1 + 1 + 1 < _; omega)).trans u0
    replace u1 := (hb1.cell (p := ⟨w.heap.size + 1 + 1 + 1, 1, none⟩) (by show w.heap.size + 1 + 1 + 1 < _; omega)).trans u1
    replace v0 := (hb1.frozen (p := ⟨w.heap.size + 1 + 1 + 1, 0, none⟩) (by show w.heap.size + 1 + 1 + 1 < _; omega)).trans v0
    replace v1 := (hb1.frozen (p := ⟨w.heap.size + 1 + 1 + 1, 1, none⟩) (by show w.heap.size + 1 + 1 + 1 < _; omega)).trans v1
    have hB1 : Below w.heap.size w w1 := hBWE.trans (hb1.mono hBWE.size)
    have hl0 : w.heap.size + 1 + 1 + 1 < w1.heap.size := by omega
    clear hb1 hBWE hsE3
    go_wp2
    refine bodyPost_ret (v := .tuple #[.int .i64 0, .agg #[.int .i64 0, .int .i64 0], .int .i64 er]) (by simp [results, Try.results40, go_sem, u0, u1, v0, v1, hl0]) rfl ⟨none, (by rw [if_neg h0]; rfl), fun _ => rfl, fun h => absurd h h0, (by (try show Below _ _ _); repeat (first | (with_reducible refine Below.setCell ?_ (by first | omega | (simp <;> omega)) _) | (with_reducible refine Below.alloc ?_ (by first | omega | (simp <;> omega)) _) | (with_reducible refine Below.drew ?_) | (with_reducible exact Below.refl _ _) | (with_reducible exact hB1) | (with_reducible refine below_call ?_ (by assumption) (by first | omega | (simp <;> omega))) | (with_reducible refine below_call ?_ (Drew.below (by assumption) _) (by first | omega | (simp <;> omega)))))⟩

end Go.Proofs.Ytlkecgjpmnganaa
