/- Contracts: span.check, fold, Hull, Meet. -/
import Derived.Test.YtfohdafijfjefaaMix
set_option linter.unusedSimpArgs false
set_option linter.unusedVariables false
namespace Go.Proofs.Ytfohdafijfjefaa
open Go.RowKit Go.Shelf

def checkS (xs : List R) : Int := if 100 < xs.length then 5 else if xs.all okR then 0 else 2

set_option maxHeartbeats 400000 in
theorem check_any (lo : Nat) (A : Option Addr) (n c : Nat) (xs : List R) (w : World) (hx : Ranges w lo A xs) (hn : Aside (xs.length = n)) (hl : n ≤ maxLen) :
    Calls Try.prog 121 #[.slice A n c] w fun e w' => e = .returned (.int .i64 (checkS xs)) ∧ Below w.heap.size w w' := by
  have hR := isRange_any lo A n c xs w hx hn hl
  unfold maxLen at hl
  have hcs : checkS xs = if 100 < n then 5 else if xs.all okR then 0 else 2 := by unfold checkS; rw [hn.out]
  rw [hcs]
  clear hcs hx hn
  generalize xs.all okR = r at hR ⊢
  by_cases h100 : 100 < n
  · have hz : (100 : Int) < (n : Int) := by omega
    rw [if_pos h100]
    go_enter Try.func121, Try.ntmps121
    go_wp2
    go_ret
    exact ⟨rfl, Below.refl _ _⟩
  · have hz : ¬ (100 : Int) < (n : Int) := by omega
    rw [if_neg h100]
    cases r with
    | true =>
      go_enter Try.func121, Try.ntmps121
      go_wp2_with fail
      refine (hR).mono ?_
      rintro e w1 ⟨rfl, hb1⟩
      have hz1 := hb1.size
      try simp only [World.size_alloc, World.size_setCell, World.size_drew] at hz1
      go_wp2
      go_ret
      exact ⟨rfl, (by (try show Below _ _ _); repeat (first | (with_reducible refine Below.setCell ?_ (by first | omega | (simp <;> omega)) _) | (with_reducible refine Below.alloc ?_ (by first | omega | (simp <;> omega)) _) | (with_reducible refine Below.drew ?_) | (with_reducible exact Below.refl _ _) | (with_reducible refine below_call ?_ (by assumption) (by first | omega | (simp <;> omega))) | (with_reducible refine below_call ?_ (Drew.below (by assumption) _) (by first | omega | (simp <;> omega)))))⟩
    | false =>
      go_enter Try.func121, Try.ntmps121
      go_wp2_with fail
      refine (hR).mono ?_
      rintro e w1 ⟨rfl, hb1⟩
      have hz1 := hb1.size
      try simp only [World.size_alloc, World.size_setCell, World.size_drew] at hz1
      go_wp2
      go_ret
      exact ⟨rfl, (by (try show Below _ _ _); repeat (first | (with_reducible refine Below.setCell ?_ (by first | omega | (simp <;> omega)) _) | (with_reducible refine Below.alloc ?_ (by first | omega | (simp <;> omega)) _) | (with_reducible refine Below.drew ?_) | (with_reducible exact Below.refl _ _) | (with_reducible refine below_call ?_ (by assumption) (by first | omega | (simp <;> omega))) | (with_reducible refine below_call ?_ (Drew.below (by assumption) _) (by first | omega | (simp <;> omega)))))⟩

/-- what brings two ranges together -/
def Joins (P : Program) (g : FuncId) (join : R → R → R) : Prop :=
  ∀ (a b : R) (W : World), Calls P g #[.agg #[.int .i64 a.lo, .int .i64 a.hi], .agg #[.int .i64 b.lo, .int .i64 b.hi]] W fun e W' => e = .returned (.agg #[.int .i64 (join a b).lo, .int .i64 (join a b).hi]) ∧ Below W.heap.size W W'

def HullJ (a b : R) : R := ⟨min a.lo b.lo, max a.hi b.hi⟩
def MeetJ (a b : R) : R := ⟨max a.lo b.lo, min a.hi b.hi⟩

set_option maxHeartbeats 400000 in
theorem Hull_lit : Joins Try.prog 125 HullJ := by
  rintro ⟨a0, a1⟩ ⟨b0, b1⟩ w
  have h1 : min a0 b0 = (HullJ ⟨a0, a1⟩ ⟨b0, b1⟩).lo := rfl
  have h2 : max a1 b1 = (HullJ ⟨a0, a1⟩ ⟨b0, b1⟩).hi := rfl
  generalize (HullJ ⟨a0, a1⟩ ⟨b0, b1⟩).lo = m at h1 ⊢
  generalize (HullJ ⟨a0, a1⟩ ⟨b0, b1⟩).hi = n at h2 ⊢
  have H1 := Lib.hid h1
  have H2 := Lib.hid h2
  clear h1 h2
  simp only
  go_enter Try.func125, Try.ntmps125
  go_wp2
  all_goals
    refine bodyPost_ret (v := .agg #[.int .i64 m, .int .i64 n]) ?_ rfl ⟨rfl, (by (try show Below _ _ _); repeat (first | (with_reducible refine Below.setCell ?_ (by first | omega | (simp <;> omega)) _) | (with_reducible refine Below.alloc ?_ (by first | omega | (simp <;> omega)) _) | (with_reducible refine Below.drew ?_) | (with_reducible exact Below.refl _ _) | (with_reducible refine below_call ?_ (by assumption) (by first | omega | (simp <;> omega))) | (with_reducible refine below_call ?_ (Drew.below (by assumption) _) (by first | omega | (simp <;> omega)))))⟩
    have h1 := H1.out
    have h2 := H2.out
    simp [results, Try.results125, go_sem, cell_set]
    omega

set_option maxHeartbeats 400000 in
theorem Meet_lit : Joins Try.prog 124 MeetJ := by
  rintro ⟨a0, a1⟩ ⟨b0, b1⟩ w
  have h1 : max a0 b0 = (MeetJ ⟨a0, a1⟩ ⟨b0, b1⟩).lo := rfl
  have h2 : min a1 b1 = (MeetJ ⟨a0, a1⟩ ⟨b0, b1⟩).hi := rfl
  generalize (MeetJ ⟨a0, a1⟩ ⟨b0, b1⟩).lo = m at h1 ⊢
  generalize (MeetJ ⟨a0, a1⟩ ⟨b0, b1⟩).hi = n at h2 ⊢
  have H1 := Lib.hid h1
  have H2 := Lib.hid h2
  clear h1 h2
  simp only
  go_enter Try.func124, Try.ntmps124
  go_wp2
  all_goals
    refine bodyPost_ret (v := .agg #[.int .i64 m, .int .i64 n]) ?_ rfl ⟨rfl, (by (try show Below _ _ _); repeat (first | (with_reducible refine Below.setCell ?_ (by first | omega | (simp <;> omega)) _) | (with_reducible refine Below.alloc ?_ (by first | omega | (simp <;> omega)) _) | (with_reducible refine Below.drew ?_) | (with_reducible exact Below.refl _ _) | (with_reducible refine below_call ?_ (by assumption) (by first | omega | (simp <;> omega))) | (with_reducible refine below_call ?_ (Drew.below (by assumption) _) (by first | omega | (simp <;> omega)))))⟩
    have h1 := H1.out
    have h2 := H2.out
    simp [results, Try.results124, go_sem, cell_set]
    omega

def foldS (join : R → R → R) (xs : List R) : R × Int :=
  if checkS xs = 0 then
    match xs with
    | [] => (⟨0, 0⟩, 4)
    | x :: l => if (l.foldl join x).hi < (l.foldl join x).lo then (⟨0, 0⟩, 7) else (l.foldl join x, 0)
  else (⟨0, 0⟩, checkS xs)

structure FoldI (w : World) (ba : Nat) (a : R) (wr : World) : Prop where
  below : Below w.heap.size w wr
  far : w.heap.size < ba
  size : ba < wr.heap.size
  r0 : wr.cell? ⟨w.heap.size, 0, none⟩ = some (.int .i64 0)
  r1 : wr.cell? ⟨w.heap.size, 1, none⟩ = some (.int .i64 0)
  rf : wr.frozen? ⟨w.heap.size, 0, none⟩ = false
  rg : wr.frozen? ⟨w.heap.size, 1, none⟩ = false
  a0 : wr.cell? ⟨ba, 0, none⟩ = some (.int .i64 a.lo)
  a1 : wr.cell? ⟨ba, 1, none⟩ = some (.int .i64 a.hi)
  af : wr.frozen? ⟨ba, 0, none⟩ = false
  ag : wr.frozen? ⟨ba, 1, none⟩ = false

set_option maxHeartbeats 1000000 in
theorem fold_any (g : FuncId) (join : R → R → R) (eg : Enters Try.prog g) (hj : Joins Try.prog g join) (lo : Nat) (A : Option Addr) (n c : Nat) (xs : List R) (w : World) (hx : Ranges w lo A xs) (hn : Aside (xs.length = n)) (hnc : n ≤ c) (hl : c ≤ maxLen) :
    Calls Try.prog 123 #[.slice A n c, .func (.func g) #[] #[]] w fun e w' => e = .returned (RE (foldS join xs)) ∧ Below w.heap.size w w' := by
  have hC := fun (W : World) (h : Below w.heap.size w W) => check_any lo A n c xs W (hx.below h (Nat.le_refl _)) hn (Nat.le_trans hnc hl)
  unfold maxLen at hl
  unfold Enters at eg
  by_cases h0 : checkS xs = 0
  · rw [h0] at hC
    cases xs with
    | nil =>
      have e : foldS join [] = (⟨0, 0⟩, 4) := by unfold foldS; rw [if_pos h0]
      rw [e]
      obtain rfl : n = 0 := hn.out.symm
      clear hx hj h0
      go_enter Try.func123, Try.ntmps123
      go_wp2_with fail
      refine (hC _ ((Below.refl _ _).alloc (Nat.le_refl _) _)).mono ?_
      rintro e w1 ⟨rfl, hb1⟩
      have hz1 := hb1.size
      try simp only [World.size_alloc, World.size_setCell, World.size_drew] at hz1
      have hc1_0 := fun o => hb1.cell (p := ⟨w.heap.size, o, none⟩) (by show w.heap.size < _; first | omega | (simp only [World.size_alloc, World.size_setCell, World.size_drew]; omega))
      have hf1_0 := fun o => hb1.frozen (p := ⟨w.heap.size, o, none⟩) (by show w.heap.size < _; first | omega | (simp only [World.size_alloc, World.size_setCell, World.size_drew]; omega))
      have hz1_0 : w.heap.size < w1.heap.size := by omega
      go_wp2
      refine bodyPost_ret (v := .tuple #[.agg #[.int .i64 0, .int .i64 0], .int .i64 4]) (by simp [results, Try.results123, go_sem, cell_set, hc1_0]) rfl ⟨rfl, (by (try show Below _ _ _); repeat (first | (with_reducible refine Below.setCell ?_ (by first | omega | (simp <;> omega)) _) | (with_reducible refine Below.alloc ?_ (by first | omega | (simp <;> omega)) _) | (with_reducible refine Below.drew ?_) | (with_reducible exact Below.refl _ _) | (with_reducible refine below_call ?_ (by assumption) (by first | omega | (simp <;> omega))) | (with_reducible refine below_call ?_ (Drew.below (by assumption) _) (by first | omega | (simp <;> omega)))))⟩
    | cons x l =>
      have hn1 : l.length + 1 = n := hn.out
      have hn0 : ((n : Int) == 0) = false := by rw [beq_eq_false_iff_ne]; omega
      have hb0 : (0 : Int) < (n : Int) := by omega
      obtain ⟨b, o, rfl, hlo, hlb, hc⟩ := hx (by simp)
      have hx0 := hc 0 0 (by simp) (by omega)
      have hx1 := hc 0 1 (by simp) (by omega)
      simp only [Nat.zero_mul, Nat.add_zero, List.getElem?_cons_zero, Option.getD_some, R.cell, if_true, Nat.one_ne_zero, if_false] at hx0 hx1
      have Hx := Lib.hid hx
      have Hj := Lib.hid hj
      have Hn1 := Lib.hid hn1
      have hfs : foldS join (x :: l) = if (l.foldl join x).hi < (l.foldl join x).lo then (⟨0, 0⟩, 7) else (l.foldl join x, 0) := by unfold foldS; rw [if_pos h0]
      generalize hres : foldS join (x :: l) = res at hfs ⊢
      have Hres := Lib.hid hfs
      clear hfs hres
      by_cases hc1 : c = 1
      · subst hc1
        obtain rfl : n = 1 := by omega
        obtain rfl : l = [] := List.eq_nil_of_length_eq_zero (by omega)
        clear hc hx hj hn1 h0
        go_enter Try.func123, Try.ntmps123
        go_wp2_with fail
        refine (hC _ ((Below.refl _ _).alloc (Nat.le_refl _) _)).mono ?_
        rintro e w1 ⟨rfl, hb1⟩
        have hz1 := hb1.size
        try simp only [World.size_alloc, World.size_setCell, World.size_drew] at hz1
        have hc1_0 := fun o => hb1.cell (p := ⟨w.heap.size, o, none⟩) (by show w.heap.size < _; first | omega | (simp only [World.size_alloc, World.size_setCell, World.size_drew]; omega))
        have hf1_0 := fun o => hb1.frozen (p := ⟨w.heap.size, o, none⟩) (by show w.heap.size < _; first | omega | (simp only [World.size_alloc, World.size_setCell, World.size_drew]; omega))
        have hz1_0 : w.heap.size < w1.heap.size := by omega
        have hd0 : w1.cell? ⟨b, o, none⟩ = some (.int .i64 x.lo) := by rw [hb1.cell (by show b < _; simp; omega)]; simp [go_sem, hx0, hlb]
        have hd1 : w1.cell? ⟨b, o + 1, none⟩ = some (.int .i64 x.hi) := by rw [hb1.cell (by show b < _; simp; omega)]; simp [go_sem, hx1, hlb]
        go_wp2_with fail
        go_loopg [26] (0) (fun gg i wr => i = .int .i64 0 ∧ Aside (FoldI w w1.heap.size (([] : List R).foldl join x) wr))
        case atStart => exact ⟨rfl, { below := (by (try show Below _ _ _); repeat (first | (with_reducible refine Below.setCell ?_ (by first | omega | (simp <;> omega)) _) | (with_reducible refine Below.alloc ?_ (by first | omega | (simp <;> omega)) _) | (with_reducible refine Below.drew ?_) | (with_reducible exact Below.refl _ _) | (with_reducible refine below_call ?_ (by assumption) (by first | omega | (simp <;> omega))) | (with_reducible refine below_call ?_ (Drew.below (by assumption) _) (by first | omega | (simp <;> omega))))), far := hz1_0, size := (by simp), r0 := (by simp [go_sem, hc1_0, hz1_0]), r1 := (by simp [go_sem, hc1_0, hz1_0]), rf := (by simp [go_sem, hf1_0, hz1_0]), rg := (by simp [go_sem, hf1_0, hz1_0]), a0 := (by simp [go_sem]), a1 := (by simp [go_sem]), af := (by simp [go_sem]), ag := (by simp [go_sem]) }⟩
        case round =>
          obtain ⟨rfl, I⟩ := hrel
          have I' := I.out
          have hr := Hres.out
          generalize ha : List.foldl join x _ = a at I' hr
          obtain ⟨hbe, hfar, hs, r0, r1, rf, rg, a0, a1, af, ag⟩ := I'
          have hs2 : w.heap.size < wr.heap.size := by omega
          have Hr := Lib.hid hr
          clear I hr ha Hres
          by_cases hlt2 : a.hi < a.lo
          · have hltb : decide (a.hi < a.lo) = true := by simpa using hlt2
            have Hl := Lib.hid hlt2
            clear hlt2
            go_wp2
            refine bodyPost_ret (v := .tuple #[.agg #[.int .i64 0, .int .i64 0], .int .i64 7]) (by simp [results, Try.results123, go_sem, cell_set, r0, r1]) rfl ⟨by rw [Hr.out, if_pos (by have := Hl.out; omega)]; rfl, (by (try show Below _ _ _); repeat (first | (with_reducible refine Below.setCell ?_ (by first | omega | (simp <;> omega)) _) | (with_reducible refine Below.alloc ?_ (by first | omega | (simp <;> omega)) _) | (with_reducible refine Below.drew ?_) | (with_reducible exact Below.refl _ _) | (with_reducible exact hbe) | (with_reducible refine below_call ?_ (by assumption) (by first | omega | (simp <;> omega))) | (with_reducible refine below_call ?_ (Drew.below (by assumption) _) (by first | omega | (simp <;> omega)))))⟩
          · have hltb : decide (a.hi < a.lo) = false := by simpa using hlt2
            have Hl := Lib.hid hlt2
            clear hlt2
            go_wp2
            refine bodyPost_ret (v := .tuple #[.agg #[.int .i64 a.lo, .int .i64 a.hi], .int .i64 0]) (by simp [results, Try.results123, go_sem, cell_set, r0, r1]) rfl ⟨by rw [Hr.out, if_neg (by have := Hl.out; omega)]; rfl, (by (try show Below _ _ _); repeat (first | (with_reducible refine Below.setCell ?_ (by first | omega | (simp <;> omega)) _) | (with_reducible refine Below.alloc ?_ (by first | omega | (simp <;> omega)) _) | (with_reducible refine Below.drew ?_) | (with_reducible exact Below.refl _ _) | (with_reducible exact hbe) | (with_reducible refine below_call ?_ (by assumption) (by first | omega | (simp <;> omega))) | (with_reducible refine below_call ?_ (Drew.below (by assumption) _) (by first | omega | (simp <;> omega)))))⟩
      · have hcc : 1 < c := by omega
        clear h0 hj hx
        go_enter Try.func123, Try.ntmps123
        go_wp2_with fail
        refine (hC _ ((Below.refl _ _).alloc (Nat.le_refl _) _)).mono ?_
        rintro e w1 ⟨rfl, hb1⟩
        have hz1 := hb1.size
        try simp only [World.size_alloc, World.size_setCell, World.size_drew] at hz1
        have hc1_0 := fun o => hb1.cell (p := ⟨w.heap.size, o, none⟩) (by show w.heap.size < _; first | omega | (simp only [World.size_alloc, World.size_setCell, World.size_drew]; omega))
        have hf1_0 := fun o => hb1.frozen (p := ⟨w.heap.size, o, none⟩) (by show w.heap.size < _; first | omega | (simp only [World.size_alloc, World.size_setCell, World.size_drew]; omega))
        have hz1_0 : w.heap.size < w1.heap.size := by omega
        have hd0 : w1.cell? ⟨b, o, none⟩ = some (.int .i64 x.lo) := by rw [hb1.cell (by show b < _; simp; omega)]; simp [go_sem, hx0, hlb]
        have hd1 : w1.cell? ⟨b, o + 1, none⟩ = some (.int .i64 x.hi) := by rw [hb1.cell (by show b < _; simp; omega)]; simp [go_sem, hx1, hlb]
        go_wp2_with fail
        have hlc : ∀ k, k < l.length → w1.cell? ⟨b, o + 2 + k * 2, none⟩ = some (.int .i64 (l[k]?.getD R.d).lo) ∧ w1.cell? ⟨b, o + 2 + k * 2 + 1, none⟩ = some (.int .i64 (l[k]?.getD R.d).hi) := by
          intro k hk
          have e0 := hc (k + 1) 0 (by simp; omega) (by omega)
          have e1 := hc (k + 1) 1 (by simp; omega) (by omega)
          simp only [List.getElem?_cons_succ, R.cell, if_true, Nat.one_ne_zero, if_false, Nat.add_zero] at e0 e1
          rw [show o + (k + 1) * 2 = o + 2 + k * 2 by omega] at e0 e1
          have hbb : b < (w.alloc (.cells #[.int .i64 0, .int .i64 0] 23)).heap.size := by simp; omega
          exact ⟨(hb1.cell (p := ⟨b, o + 2 + k * 2, none⟩) hbb).trans (by simp [go_sem, e0, hlb]), (hb1.cell (p := ⟨b, o + 2 + k * 2 + 1, none⟩) hbb).trans (by simp [go_sem, e1, hlb])⟩
        have Hlc := Lib.hid hlc
        have hzb : b < w1.heap.size := by omega
        clear hc hlc
        go_loopg [26] (n) (fun gg i wr => ∃ k : Nat, k ≤ n - 1 ∧ n - 1 - k ≤ gg ∧ i = .int .i64 k ∧ Aside (FoldI w w1.heap.size ((l.take k).foldl join x) wr) ∧ Aside (Below w1.heap.size w1 wr))
        case atStart => exact ⟨0, Nat.zero_le _, by omega, rfl, { below := (by (try show Below _ _ _); repeat (first | (with_reducible refine Below.setCell ?_ (by first | omega | (simp <;> omega)) _) | (with_reducible refine Below.alloc ?_ (by first | omega | (simp <;> omega)) _) | (with_reducible refine Below.drew ?_) | (with_reducible exact Below.refl _ _) | (with_reducible refine below_call ?_ (by assumption) (by first | omega | (simp <;> omega))) | (with_reducible refine below_call ?_ (Drew.below (by assumption) _) (by first | omega | (simp <;> omega))))), far := hz1_0, size := (by simp), r0 := (by simp [go_sem, hc1_0, hz1_0]), r1 := (by simp [go_sem, hc1_0, hz1_0]), rf := (by simp [go_sem, hf1_0, hz1_0]), rg := (by simp [go_sem, hf1_0, hz1_0]), a0 := (by simp [go_sem]), a1 := (by simp [go_sem]), af := (by simp [go_sem]), ag := (by simp [go_sem]) }, (by (try show Below _ _ _); repeat (first | (with_reducible refine Below.setCell ?_ (by first | omega | (simp <;> omega)) _) | (with_reducible refine Below.alloc ?_ (by first | omega | (simp <;> omega)) _) | (with_reducible refine Below.drew ?_) | (with_reducible exact Below.refl _ _) | (with_reducible refine below_call ?_ (by assumption) (by first | omega | (simp <;> omega))) | (with_reducible refine below_call ?_ (Drew.below (by assumption) _) (by first | omega | (simp <;> omega)))))⟩
        case round =>
          obtain ⟨k, hk, hg, rfl, I, hbr⟩ := hrel
          by_cases hlt : k < n - 1
          · obtain ⟨e0, e1⟩ := Hlc.out k (by omega)
            have f0 := (hbr.out.cell (p := ⟨b, o + 2 + k * 2, none⟩) hzb).trans e0
            have f1 := (hbr.out.cell (p := ⟨b, o + 2 + k * 2 + 1, none⟩) hzb).trans e1
            have hbw := hbr.out.size
            have hsn : (l.take (k + 1)).foldl join x = join ((l.take k).foldl join x) (l[k]?.getD R.d) := by
              rw [List.take_succ_eq_append_getElem (show k < l.length by omega), List.foldl_append]
              simp [List.getElem?_eq_getElem (show k < l.length by omega)]
            clear e0 e1
            generalize l[k]?.getD R.d = y at f0 f1 hsn
            have I' := I.out
            generalize (l.take k).foldl join x = a at I' hsn
            obtain ⟨hbe, hfar, hs, r0, r1, rf, rg, a0, a1, af, ag⟩ := I'
            have hjc := fun W => Hj.out a y W
            have Hsn := Lib.hid hsn
            clear hsn I
            have hs2 : w.heap.size < wr.heap.size := by omega
            have hltz : (k : Int) < ((n - 1 : Nat) : Int) := by omega
            have hltn : k < n - 1 := hlt
            go_wp2_with (go_at_fn g; refine (hjc _).mono ?_; rintro e w2 ⟨rfl, hb2⟩; have hz2 := hb2.size; (try simp only [World.size_alloc, World.size_setCell, World.size_drew] at hz2); have hc2_0 := fun o => hb2.cell (p := ⟨w.heap.size, o, none⟩) (by show w.heap.size < _; first | omega | (simp only [World.size_alloc, World.size_setCell, World.size_drew]; omega)); have hf2_0 := fun o => hb2.frozen (p := ⟨w.heap.size, o, none⟩) (by show w.heap.size < _; first | omega | (simp only [World.size_alloc, World.size_setCell, World.size_drew]; omega)); have hz2_0 : w.heap.size < w2.heap.size := (by omega); have hk0 := fun o => hb2.cell (p := ⟨w1.heap.size, o, none⟩) (by show w1.heap.size < _; first | omega | (simp only [World.size_alloc]; omega)); have hk1 := fun o => hb2.frozen (p := ⟨w1.heap.size, o, none⟩) (by show w1.heap.size < _; first | omega | (simp only [World.size_alloc]; omega)); have hk2 : w1.heap.size < w2.heap.size := (by omega))
            go_roundg (n - 1 - (k + 1))
            case measure => omega
            case rel =>
              have hne : w1.heap.size ≠ w.heap.size := by omega
              refine ⟨k + 1, by omega, by omega, by go_num, ?_, (by (try show Below _ _ _); repeat (first | (with_reducible refine Below.setCell ?_ (by first | omega | (simp <;> omega)) _) | (with_reducible refine Below.alloc ?_ (by first | omega | (simp <;> omega)) _) | (with_reducible refine Below.drew ?_) | (with_reducible exact Below.refl _ _) | (with_reducible exact hbr.out) | (with_reducible refine below_call ?_ (by assumption) (by first | omega | (simp <;> omega))) | (with_reducible refine below_call ?_ (Drew.below (by assumption) _) (by first | omega | (simp <;> omega)))))⟩
              rw [Hsn.out]
              exact { below := (by (try show Below _ _ _); repeat (first | (with_reducible refine Below.setCell ?_ (by first | omega | (simp <;> omega)) _) | (with_reducible refine Below.alloc ?_ (by first | omega | (simp <;> omega)) _) | (with_reducible refine Below.drew ?_) | (with_reducible exact Below.refl _ _) | (with_reducible exact hbe) | (with_reducible refine below_call ?_ (by assumption) (by first | omega | (simp <;> omega))) | (with_reducible refine below_call ?_ (Drew.below (by assumption) _) (by first | omega | (simp <;> omega))))), far := hfar, size := (by simp; omega), r0 := (by simp [go_sem, cell_set, hc2_0, r0, hs2, hne]), r1 := (by simp [go_sem, cell_set, hc2_0, r1, hs2, hne]), rf := (by simp [go_sem, hf2_0, rf, hs2]), rg := (by simp [go_sem, hf2_0, rg, hs2]), a0 := (by simp [go_sem, cell_set, hk0, a0, hs]), a1 := (by simp [go_sem, cell_set, hk0, a1, hs]), af := (by simp [go_sem, hk1, af, hs]), ag := (by simp [go_sem, hk1, ag, hs]) }
          · have hke : k = n - 1 := by omega
            subst hke
            have htk : l.take (n - 1) = l := List.take_of_length_le (by omega)
            rw [htk] at I
            have I' := I.out
            have hr := Hres.out
            generalize ha : List.foldl join x _ = a at I' hr
            obtain ⟨hbe, hfar, hs, r0, r1, rf, rg, a0, a1, af, ag⟩ := I'
            have hs2 : w.heap.size < wr.heap.size := by omega
            have Hr := Lib.hid hr
            clear I hr ha Hres
            by_cases hlt2 : a.hi < a.lo
            · have hltb : decide (a.hi < a.lo) = true := by simpa using hlt2
              have Hl := Lib.hid hlt2
              clear hlt2
              go_wp2
              refine bodyPost_ret (v := .tuple #[.agg #[.int .i64 0, .int .i64 0], .int .i64 7]) (by simp [results, Try.results123, go_sem, cell_set, r0, r1]) rfl ⟨by rw [Hr.out, if_pos (by have := Hl.out; omega)]; rfl, (by (try show Below _ _ _); repeat (first | (with_reducible refine Below.setCell ?_ (by first | omega | (simp <;> omega)) _) | (with_reducible refine Below.alloc ?_ (by first | omega | (simp <;> omega)) _) | (with_reducible refine Below.drew ?_) | (with_reducible exact Below.refl _ _) | (with_reducible exact hbe) | (with_reducible refine below_call ?_ (by assumption) (by first | omega | (simp <;> omega))) | (with_reducible refine below_call ?_ (Drew.below (by assumption) _) (by first | omega | (simp <;> omega)))))⟩
            · have hltb : decide (a.hi < a.lo) = false := by simpa using hlt2
              have Hl := Lib.hid hlt2
              clear hlt2
              go_wp2
              refine bodyPost_ret (v := .tuple #[.agg #[.int .i64 a.lo, .int .i64 a.hi], .int .i64 0]) (by simp [results, Try.results123, go_sem, cell_set, r0, r1]) rfl ⟨by rw [Hr.out, if_neg (by have := Hl.out; omega)]; rfl, (by (try show Below _ _ _); repeat (first | (with_reducible refine Below.setCell ?_ (by first | omega | (simp <;> omega)) _) | (with_reducible refine Below.alloc ?_ (by first | omega | (simp <;> omega)) _) | (with_reducible refine Below.drew ?_) | (with_reducible exact Below.refl _ _) | (with_reducible exact hbe) | (with_reducible refine below_call ?_ (by assumption) (by first | omega | (simp <;> omega))) | (with_reducible refine below_call ?_ (Drew.below (by assumption) _) (by first | omega | (simp <;> omega)))))⟩
  · have e : foldS join xs = (⟨0, 0⟩, checkS xs) := by unfold foldS; rw [if_neg h0]
    rw [e]
    generalize checkS xs = ck at hC h0 ⊢
    have hck : (ck != 0) = true := by rw [bne_iff_ne]; exact h0
    clear h0
    go_enter Try.func123, Try.ntmps123
    go_wp2_with fail
    refine (hC _ ((Below.refl _ _).alloc (Nat.le_refl _) _)).mono ?_
    rintro e w1 ⟨rfl, hb1⟩
    have hz1 := hb1.size
    try simp only [World.size_alloc, World.size_setCell, World.size_drew] at hz1
    have hc1_0 := fun o => hb1.cell (p := ⟨w.heap.size, o, none⟩) (by show w.heap.size < _; first | omega | (simp only [World.size_alloc, World.size_setCell, World.size_drew]; omega))
    have hf1_0 := fun o => hb1.frozen (p := ⟨w.heap.size, o, none⟩) (by show w.heap.size < _; first | omega | (simp only [World.size_alloc, World.size_setCell, World.size_drew]; omega))
    have hz1_0 : w.heap.size < w1.heap.size := by omega
    go_wp2
    refine bodyPost_ret (v := .tuple #[.agg #[.int .i64 0, .int .i64 0], .int .i64 ck]) (by simp [results, Try.results123, go_sem, cell_set, hc1_0]) rfl ⟨rfl, (by (try show Below _ _ _); repeat (first | (with_reducible refine Below.setCell ?_ (by first | omega | (simp <;> omega)) _) | (with_reducible refine Below.alloc ?_ (by first | omega | (simp <;> omega)) _) | (with_reducible refine Below.drew ?_) | (with_reducible exact Below.refl _ _) | (with_reducible refine below_call ?_ (by assumption) (by first | omega | (simp <;> omega))) | (with_reducible refine below_call ?_ (Drew.below (by assumption) _) (by first | omega | (simp <;> omega)))))⟩

set_option maxHeartbeats 400000 in
theorem Hull_any (lo : Nat) (A : Option Addr) (n c : Nat) (xs : List R) (w : World) (hx : Ranges w lo A xs) (hn : Aside (xs.length = n)) (hnc : n ≤ c) (hl : c ≤ maxLen) :
    Calls Try.prog 74 #[.slice A n c] w fun e w' => e = .returned (RE (foldS HullJ xs)) ∧ Below w.heap.size w w' := by
  have eg : Enters Try.prog 125 := enters_of Try.func125 (by kernel_rfl) rfl
  have hF := fun (W : World) (h : Below w.heap.size w W) => fold_any 125 HullJ eg Hull_lit lo A n c xs W (hx.below h (Nat.le_refl _)) hn hnc hl
  generalize foldS HullJ xs = rr at hF ⊢
  unfold RE at hF ⊢
  clear eg hx hn
  go_enter Try.func74, Try.ntmps74
  go_wp2_with fail
  refine (hF _ ((Below.refl _ _).alloc (Nat.le_refl _) _)).mono ?_
  rintro e w1 ⟨rfl, hb1⟩
  have hz1 := hb1.size
  try simp only [World.size_alloc, World.size_setCell, World.size_drew] at hz1
  have hc1_0 := fun o => hb1.cell (p := ⟨w.heap.size, o, none⟩) (by show w.heap.size < _; first | omega | (simp only [World.size_alloc, World.size_setCell, World.size_drew]; omega))
  have hf1_0 := fun o => hb1.frozen (p := ⟨w.heap.size, o, none⟩) (by show w.heap.size < _; first | omega | (simp only [World.size_alloc, World.size_setCell, World.size_drew]; omega))
  have hz1_0 : w.heap.size < w1.heap.size := by omega
  go_wp2
  refine bodyPost_ret (v := .tuple #[.agg #[.int .i64 rr.1.lo, .int .i64 rr.1.hi], .int .i64 rr.2]) (by simp [results, Try.results74, go_sem, cell_set, hc1_0]) rfl ⟨rfl, (by (try show Below _ _ _); repeat (first | (with_reducible refine Below.setCell ?_ (by first | omega | (simp <;> omega)) _) | (with_reducible refine Below.alloc ?_ (by first | omega | (simp <;> omega)) _) | (with_reducible refine Below.drew ?_) | (with_reducible exact Below.refl _ _) | (with_reducible refine below_call ?_ (by assumption) (by first | omega | (simp <;> omega))) | (with_reducible refine below_call ?_ (Drew.below (by assumption) _) (by first | omega | (simp <;> omega)))))⟩

set_option maxHeartbeats 400000 in
theorem Meet_any (lo : Nat) (A : Option Addr) (n c : Nat) (xs : List R) (w : World) (hx : Ranges w lo A xs) (hn : Aside (xs.length = n)) (hnc : n ≤ c) (hl : c ≤ maxLen) :
    Calls Try.prog 73 #[.slice A n c] w fun e w' => e = .returned (RE (foldS MeetJ xs)) ∧ Below w.heap.size w w' := by
  have eg : Enters Try.prog 124 := enters_of Try.func124 (by kernel_rfl) rfl
  have hF := fun (W : World) (h : Below w.heap.size w W) => fold_any 124 MeetJ eg Meet_lit lo A n c xs W (hx.below h (Nat.le_refl _)) hn hnc hl
  generalize foldS MeetJ xs = rr at hF ⊢
  unfold RE at hF ⊢
  clear eg hx hn
  go_enter Try.func73, Try.ntmps73
  go_wp2_with fail
  refine (hF _ ((Below.refl _ _).alloc (Nat.le_refl _) _)).mono ?_
  rintro e w1 ⟨rfl, hb1⟩
  have hz1 := hb1.size
  try simp only [World.size_alloc, World.size_setCell, World.size_drew] at hz1
  have hc1_0 := fun o => hb1.cell (p := ⟨w.heap.size, o, none⟩) (by show w.heap.size < _; first | omega | (simp only [World.size_alloc, World.size_setCell, World.size_drew]; omega))
  have hf1_0 := fun o => hb1.frozen (p := ⟨w.heap.size, o, none⟩) (by show w.heap.size < _; first | omega | (simp only [World.size_alloc, World.size_setCell, World.size_drew]; omega))
  have hz1_0 : w.heap.size < w1.heap.size := by omega
  go_wp2
  refine bodyPost_ret (v := .tuple #[.agg #[.int .i64 rr.1.lo, .int .i64 rr.1.hi], .int .i64 rr.2]) (by simp [results, Try.results73, go_sem, cell_set, hc1_0]) rfl ⟨rfl, (by (try show Below _ _ _); repeat (first | (with_reducible refine Below.setCell ?_ (by first | omega | (simp <;> omega)) _) | (with_reducible refine Below.alloc ?_ (by first | omega | (simp <;> omega)) _) | (with_reducible refine Below.drew ?_) | (with_reducible exact Below.refl _ _) | (with_reducible refine below_call ?_ (by assumption) (by first | omega | (simp <;> omega))) | (with_reducible refine below_call ?_ (Drew.below (by assumption) _) (by first | omega | (simp <;> omega)))))⟩


end Go.Proofs.Ytfohdafijfjefaa
