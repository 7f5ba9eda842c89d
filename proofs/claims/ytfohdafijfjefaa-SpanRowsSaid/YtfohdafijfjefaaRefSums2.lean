/- Contracts: span.Sum; reference Meet, Hull. -/
import Derived.Test.YtfohdafijfjefaaRefSums
set_option linter.unusedSimpArgs false
set_option linter.unusedVariables false
namespace Go.Proofs.Ytfohdafijfjefaa
open Go.RowKit Go.Shelf
attribute [local go_sem ↓] Go.wp_at_zero Go.wp_at_succ

/-- two boxes: the result's, zero, and one that is filled -/
structure MixJ (w : World) (ba : Nat) (a : R) (wr : World) : Prop where
  below : Below w.heap.size w wr
  size : ba < wr.heap.size
  far : w.heap.size < ba
  r0 : wr.cell? ⟨w.heap.size, 0, none⟩ = some (.int .i64 0)
  r1 : wr.cell? ⟨w.heap.size, 1, none⟩ = some (.int .i64 0)
  rf : wr.frozen? ⟨w.heap.size, 0, none⟩ = false
  rg : wr.frozen? ⟨w.heap.size, 1, none⟩ = false
  a0 : wr.cell? ⟨ba, 0, none⟩ = some (.int .i64 a.lo)
  a1 : wr.cell? ⟨ba, 1, none⟩ = some (.int .i64 a.hi)
  af : wr.frozen? ⟨ba, 0, none⟩ = false
  ag : wr.frozen? ⟨ba, 1, none⟩ = false

set_option maxRecDepth 100000 in
set_option maxHeartbeats 1000000 in
theorem Sum_any (lo : Nat) (A : Option Addr) (n c : Nat) (xs : List R) (w : World) (hx : Ranges w lo A xs) (hn : Aside (xs.length = n)) (hl : n ≤ maxLen) :
    Calls Try.prog 72 #[.slice A n c] w fun e w' => e = .returned (RE (sumS xs)) ∧ Below w.heap.size w w' := by
  have hC := fun (W : World) (h : Below w.heap.size w W) => check_any lo A n c xs W (hx.below h (Nat.le_refl _)) hn hl
  unfold maxLen at hl
  by_cases h0 : checkS xs = 0
  · have e : sumS xs = madeS (sumR xs).lo (sumR xs).hi := by unfold sumS; rw [if_pos h0]
    rw [e]
    obtain ⟨h100, hok⟩ := check_ok h0
    have hn100 : n ≤ 100 := by have := hn.out; omega
    rw [h0] at hC
    have HX := Lib.hid hx
    have HOK := Lib.hid hok
    clear hx hok e h0
    generalize hres : madeS (sumR xs).lo (sumR xs).hi = res
    have Hres := Lib.hid hres
    clear hres
    unfold RE
    go_enter Try.func72, Try.ntmps72
    go_wp2_with fail
    refine (hC _ ((Below.refl _ _).alloc (Nat.le_refl _) _)).mono ?_
    rintro e w1 ⟨rfl, hb1⟩
    have hz1 := hb1.size
    try simp only [World.size_alloc, World.size_setCell, World.size_drew] at hz1
    have hc1_0 := fun o => hb1.cell (p := ⟨w.heap.size, o, none⟩) (by show w.heap.size < _; first | omega | (simp only [World.size_alloc, World.size_setCell, World.size_drew]; omega))
    have hf1_0 := fun o => hb1.frozen (p := ⟨w.heap.size, o, none⟩) (by show w.heap.size < _; first | omega | (simp only [World.size_alloc, World.size_setCell, World.size_drew]; omega))
    have hz1_0 : w.heap.size < w1.heap.size := by omega
    have HB1 : Below w.heap.size w w1 := (by (try show Below _ _ _); repeat (first | (with_reducible refine Below.setCell ?_ (by first | omega | (simp <;> omega)) _) | (with_reducible refine Below.alloc ?_ (by first | omega | (simp <;> omega)) _) | (with_reducible refine Below.drew ?_) | (with_reducible exact Below.refl _ _) | (with_reducible refine below_call ?_ (by assumption) (by first | omega | (simp <;> omega))) | (with_reducible refine below_call ?_ (Drew.below (by assumption) _) (by first | omega | (simp <;> omega)))))
    go_wp2
    go_loopg [16] (n) (fun gg i wr => ∃ k : Nat, k ≤ n ∧ n - k ≤ gg ∧ i = .int .i64 k ∧ Aside (MixJ w w1.heap.size (sumR (xs.take k)) wr))
    case atStart =>
      exact ⟨0, Nat.zero_le _, Nat.le_refl _, rfl, { below := (by (try show Below _ _ _); repeat (first | (with_reducible refine Below.setCell ?_ (by first | omega | (simp <;> omega)) _) | (with_reducible refine Below.alloc ?_ (by first | omega | (simp <;> omega)) _) | (with_reducible refine Below.drew ?_) | (with_reducible exact Below.refl _ _) | (with_reducible refine below_call ?_ (by assumption) (by first | omega | (simp <;> omega))) | (with_reducible refine below_call ?_ (Drew.below (by assumption) _) (by first | omega | (simp <;> omega))))), size := (by simp), far := hz1_0, r0 := (by simp [go_sem, hc1_0, hz1_0]), r1 := (by simp [go_sem, hc1_0, hz1_0]), rf := (by simp [go_sem, hf1_0, hz1_0]), rg := (by simp [go_sem, hf1_0, hz1_0]), a0 := (by simp [go_sem, sumR]), a1 := (by simp [go_sem, sumR]), af := (by simp [go_sem]), ag := (by simp [go_sem]) }⟩
    case round =>
      obtain ⟨k, hk, hg, rfl, I⟩ := hrel
      have hsum := sumR_bound xs (-1000000000000000) 1000000000000000 k (by have := hn.out; omega) (fun j hj => by have := (okR_iff _).1 (HOK.out j (by have := hn.out; omega)); omega)
      by_cases hlt : k < n
      · obtain ⟨b, o, rfl, _, hlb, hc⟩ := HX.out (by have := hn.out; omega)
        have x0 := (I.out.below.cell (p := ⟨b, o + k * 2 + 0, none⟩) hlb).trans (hc k 0 (by have := hn.out; omega) (by omega))
        have x1 := (I.out.below.cell (p := ⟨b, o + k * 2 + 1, none⟩) hlb).trans (hc k 1 (by have := hn.out; omega) (by omega))
        have hsn := sumR_snoc xs k (by have := hn.out; omega)
        have okk := (okR_iff _).1 (HOK.out k (by have := hn.out; omega))
        clear hc
        generalize xs[k]?.getD R.d = x at x0 x1 hsn okk
        obtain ⟨p0, p1⟩ := x
        simp only [R.cell, Nat.add_zero, if_true, Nat.one_ne_zero, if_false] at x0 x1 okk
        have I' := I.out
        generalize hS : sumR (xs.take k) = S at hsum hsn I'
        obtain ⟨s0, s1⟩ := S
        have Hsn := Lib.hid hsn
        clear hsn hS I
        obtain ⟨hbe, hs, hfar, r0, r1, rf, rg, a0, a1, af, ag⟩ := I'
        simp only at hsum a0 a1
        have hs2 : w.heap.size < wr.heap.size := by omega
        have hne : w1.heap.size ≠ w.heap.size := by omega
        have hne2 : w.heap.size ≠ w1.heap.size := by omega
        have hltz : (k : Int) < (n : Int) := by omega
        have hk0 : (0 : Int) ≤ (k : Int) := by omega
        go_wp2_with fail
        go_region
        all_goals
          go_wp2
          go_roundg (n - (k + 1))
          case measure => omega
          case rel =>
            refine ⟨k + 1, by omega, by omega, by go_num, ?_⟩
            exact { below := (by (try show Below _ _ _); repeat (first | (with_reducible refine Below.setCell ?_ (by first | omega | (simp <;> omega)) _) | (with_reducible refine Below.alloc ?_ (by first | omega | (simp <;> omega)) _) | (with_reducible refine Below.drew ?_) | (with_reducible exact Below.refl _ _) | (with_reducible exact hbe) | (with_reducible refine below_call ?_ (by assumption) (by first | omega | (simp <;> omega))) | (with_reducible refine below_call ?_ (Drew.below (by assumption) _) (by first | omega | (simp <;> omega))))), size := (by simp; omega), far := hfar, r0 := (by simp [go_sem, cell_set, r0, hne, hs2]), r1 := (by simp [go_sem, cell_set, r1, hne, hs2]), rf := (by simp [go_sem, rf, hs2]), rg := (by simp [go_sem, rg, hs2]), a0 := (by simp [go_sem, cell_set, a0, hs, Hsn.out]), a1 := (by simp [go_sem, cell_set, a1, hs, Hsn.out]), af := (by simp [go_sem, af, hs]), ag := (by simp [go_sem, ag, hs]) }
      · have hltz : ¬ (k : Int) < (n : Int) := by omega
        have hke : k = n := by omega
        subst hke
        have htk : xs.take k = xs := List.take_of_length_le (by have := hn.out; omega)
        rw [htk] at I hsum
        have I' := I.out
        clear I htk
        have hr := Hres.out
        generalize sumR xs = S at I' hr
        obtain ⟨s0, s1⟩ := S
        obtain ⟨hbe, hs, hfar, r0, r1, rf, rg, a0, a1, af, ag⟩ := I'
        simp only at a0 a1 hr
        have hs2 : w.heap.size < wr.heap.size := by omega
        have hF := fun W => made_any s0 s1 W
        generalize madeS s0 s1 = rr at hF hr
        subst hr
        unfold RE at hF
        clear hsum
        go_wp2_with fail
        refine (hF _).mono ?_
        rintro e w2 ⟨rfl, hb2⟩
        have hz2 := hb2.size
        try simp only [World.size_alloc, World.size_setCell, World.size_drew] at hz2
        have k0 := (hb2.cell (p := ⟨w.heap.size, 0, none⟩) hs2).trans r0
        have k1 := (hb2.cell (p := ⟨w.heap.size, 1, none⟩) hs2).trans r1
        have k2 := (hb2.frozen (p := ⟨w.heap.size, 0, none⟩) hs2).trans rf
        have k3 := (hb2.frozen (p := ⟨w.heap.size, 1, none⟩) hs2).trans rg
        go_wp2
        refine bodyPost_ret (v := .tuple #[.agg #[.int .i64 rr.1.lo, .int .i64 rr.1.hi], .int .i64 rr.2]) (by simp [results, Try.results72, go_sem, cell_set, k0, k1]) rfl ⟨rfl, (by (try show Below _ _ _); repeat (first | (with_reducible refine Below.setCell ?_ (by first | omega | (simp <;> omega)) _) | (with_reducible refine Below.alloc ?_ (by first | omega | (simp <;> omega)) _) | (with_reducible refine Below.drew ?_) | (with_reducible exact Below.refl _ _) | (with_reducible exact hbe) | (with_reducible refine below_call ?_ (by assumption) (by first | omega | (simp <;> omega))) | (with_reducible refine below_call ?_ (Drew.below (by assumption) _) (by first | omega | (simp <;> omega)))))⟩
  · have e : sumS xs = (⟨0, 0⟩, checkS xs) := by unfold sumS; rw [if_neg h0]
    rw [e]
    generalize checkS xs = ck at hC h0 ⊢
    have hck : (ck != 0) = true := by rw [bne_iff_ne]; exact h0
    clear h0 e hx
    go_enter Try.func72, Try.ntmps72
    go_wp2_with fail
    refine (hC _ ((Below.refl _ _).alloc (Nat.le_refl _) _)).mono ?_
    rintro e w1 ⟨rfl, hb1⟩
    have hz1 := hb1.size
    try simp only [World.size_alloc, World.size_setCell, World.size_drew] at hz1
    have hc1_0 := fun o => hb1.cell (p := ⟨w.heap.size, o, none⟩) (by show w.heap.size < _; first | omega | (simp only [World.size_alloc, World.size_setCell, World.size_drew]; omega))
    have hf1_0 := fun o => hb1.frozen (p := ⟨w.heap.size, o, none⟩) (by show w.heap.size < _; first | omega | (simp only [World.size_alloc, World.size_setCell, World.size_drew]; omega))
    have hz1_0 : w.heap.size < w1.heap.size := by omega
    go_wp2
    refine bodyPost_ret (v := .tuple #[.agg #[.int .i64 0, .int .i64 0], .int .i64 ck]) (by simp [results, Try.results72, go_sem, cell_set, hc1_0]) rfl ⟨rfl, (by (try show Below _ _ _); repeat (first | (with_reducible refine Below.setCell ?_ (by first | omega | (simp <;> omega)) _) | (with_reducible refine Below.alloc ?_ (by first | omega | (simp <;> omega)) _) | (with_reducible refine Below.drew ?_) | (with_reducible exact Below.refl _ _) | (with_reducible refine below_call ?_ (by assumption) (by first | omega | (simp <;> omega))) | (with_reducible refine below_call ?_ (Drew.below (by assumption) _) (by first | omega | (simp <;> omega)))))⟩

theorem foldS_cons (join : R → R → R) (x : R) (l : List R) (h : checkS (x :: l) = 0) : foldS join (x :: l) = if (l.foldl join x).hi < (l.foldl join x).lo then (⟨0, 0⟩, 7) else (l.foldl join x, 0) := by
  unfold foldS; rw [if_pos h]

theorem hull_le (l : List R) (x : R) (hx : x.lo ≤ x.hi) : (l.foldl HullJ x).lo ≤ (l.foldl HullJ x).hi := by
  induction l generalizing x with
  | nil => exact hx
  | cons y l ih => exact ih _ (by simp only [HullJ]; omega)

set_option maxRecDepth 100000 in
set_option maxHeartbeats 1000000 in
theorem refMeet_any (lo : Nat) (A : Option Addr) (n c : Nat) (xs : List R) (w : World) (hx : Ranges w lo A xs) (hn : Aside (xs.length = n)) (hl : n ≤ maxLen) :
    Calls Try.prog 76 #[.slice A n c] w fun e w' => e = .returned (RE (foldS MeetJ xs)) ∧ Below w.heap.size w w' := by
  have hC := fun (W : World) (h : Below w.heap.size w W) => refRanges_any lo A n c xs W (hx.below h (Nat.le_refl _)) hn hl
  unfold maxLen at hl
  by_cases h0 : checkS xs = 0
  · rw [h0] at hC
    cases xs with
    | nil =>
      have e : foldS MeetJ [] = (⟨0, 0⟩, 4) := by unfold foldS; rw [if_pos h0]
      rw [e]
      obtain rfl : n = 0 := hn.out.symm
      clear hx h0 e
      go_enter Try.func76, Try.ntmps76
      go_wp2_with fail
      refine (hC _ ((Below.refl _ _).alloc (Nat.le_refl _) _)).mono ?_
      rintro e w1 ⟨rfl, hb1⟩
      have hz1 := hb1.size
      try simp only [World.size_alloc, World.size_setCell, World.size_drew] at hz1
      have hc1_0 := fun o => hb1.cell (p := ⟨w.heap.size, o, none⟩) (by show w.heap.size < _; first | omega | (simp only [World.size_alloc, World.size_setCell, World.size_drew]; omega))
      have hf1_0 := fun o => hb1.frozen (p := ⟨w.heap.size, o, none⟩) (by show w.heap.size < _; first | omega | (simp only [World.size_alloc, World.size_setCell, World.size_drew]; omega))
      have hz1_0 : w.heap.size < w1.heap.size := by omega
      go_wp2
      refine bodyPost_ret (v := .tuple #[.agg #[.int .i64 0, .int .i64 0], .int .i64 4]) (by simp [results, Try.results76, go_sem, cell_set, hc1_0]) rfl ⟨rfl, (by (try show Below _ _ _); repeat (first | (with_reducible refine Below.setCell ?_ (by first | omega | (simp <;> omega)) _) | (with_reducible refine Below.alloc ?_ (by first | omega | (simp <;> omega)) _) | (with_reducible refine Below.drew ?_) | (with_reducible exact Below.refl _ _) | (with_reducible refine below_call ?_ (by assumption) (by first | omega | (simp <;> omega))) | (with_reducible refine below_call ?_ (Drew.below (by assumption) _) (by first | omega | (simp <;> omega)))))⟩
    | cons x l =>
      have hn1 : l.length + 1 = n := hn.out
      have hn0 : ((n : Int) == 0) = false := by rw [beq_eq_false_iff_ne]; omega
      have hb0 : (0 : Int) < (n : Int) := by omega
      obtain ⟨b, o, rfl, hlo, hlb, hc⟩ := hx (by simp)
      have hx0 := hc 0 0 (by simp) (by omega)
      have hx1 := hc 0 1 (by simp) (by omega)
      simp only [Nat.zero_mul, Nat.add_zero, List.getElem?_cons_zero, Option.getD_some, R.cell, if_true, Nat.one_ne_zero, if_false] at hx0 hx1
      have HC := Lib.hid hc
      have Hn1 := Lib.hid hn1
      have okx := (okR_iff _).1 ((check_ok h0).2 0 (by simp))
      simp only [List.getElem?_cons_zero, Option.getD_some] at okx
      have hfs := foldS_cons MeetJ x l h0
      have hself : ((x :: l).foldl MeetJ x) = l.foldl MeetJ x := by
        rw [List.foldl_cons]
        congr 1
        obtain ⟨p, q⟩ := x
        simp [MeetJ]
      have hle := hull_le l x (by omega)
      have hselfH : ((x :: l).foldl HullJ x) = l.foldl HullJ x := by
        rw [List.foldl_cons]
        congr 1
        obtain ⟨p, q⟩ := x
        simp [HullJ]
      generalize hres : foldS MeetJ (x :: l) = res at hfs ⊢
      rw [← hself] at hfs
      rw [← hselfH] at hle
      clear hselfH
      have Hle := Lib.hid hle
      have Hres := Lib.hid hfs
      clear hfs hres hself h0 hc hx hn1 hle
      obtain ⟨x0, x1⟩ := x
      simp only at hx0 hx1 okx
      unfold RE
      go_enter Try.func76, Try.ntmps76
      go_wp2_with fail
      refine (hC _ ((Below.refl _ _).alloc (Nat.le_refl _) _)).mono ?_
      rintro e w1 ⟨rfl, hb1⟩
      have hz1 := hb1.size
      try simp only [World.size_alloc, World.size_setCell, World.size_drew] at hz1
      have hc1_0 := fun o => hb1.cell (p := ⟨w.heap.size, o, none⟩) (by show w.heap.size < _; first | omega | (simp only [World.size_alloc, World.size_setCell, World.size_drew]; omega))
      have hf1_0 := fun o => hb1.frozen (p := ⟨w.heap.size, o, none⟩) (by show w.heap.size < _; first | omega | (simp only [World.size_alloc, World.size_setCell, World.size_drew]; omega))
      have hz1_0 : w.heap.size < w1.heap.size := by omega
      have HB1 : Below w.heap.size w w1 := (by (try show Below _ _ _); repeat (first | (with_reducible refine Below.setCell ?_ (by first | omega | (simp <;> omega)) _) | (with_reducible refine Below.alloc ?_ (by first | omega | (simp <;> omega)) _) | (with_reducible refine Below.drew ?_) | (with_reducible exact Below.refl _ _) | (with_reducible refine below_call ?_ (by assumption) (by first | omega | (simp <;> omega))) | (with_reducible refine below_call ?_ (Drew.below (by assumption) _) (by first | omega | (simp <;> omega)))))
      have g0 : w1.cell? ⟨b, o, none⟩ = some (.int .i64 x0) := (HB1.cell (p := ⟨b, o, none⟩) hlb).trans hx0
      have g1 : w1.cell? ⟨b, o + 1, none⟩ = some (.int .i64 x1) := (HB1.cell (p := ⟨b, o + 1, none⟩) hlb).trans hx1
      go_wp2
      go_loopg [6] (n) (fun gg i wr => ∃ k : Nat, k ≤ n ∧ n - k ≤ gg ∧ i = .int .i64 k ∧ Aside (MixJ w w1.heap.size (((⟨x0, x1⟩ :: l).take k).foldl MeetJ ⟨x0, x1⟩) wr))
      case atStart =>
        exact ⟨0, Nat.zero_le _, Nat.le_refl _, rfl, { below := (by (try show Below _ _ _); repeat (first | (with_reducible refine Below.setCell ?_ (by first | omega | (simp <;> omega)) _) | (with_reducible refine Below.alloc ?_ (by first | omega | (simp <;> omega)) _) | (with_reducible refine Below.drew ?_) | (with_reducible exact Below.refl _ _) | (with_reducible refine below_call ?_ (by assumption) (by first | omega | (simp <;> omega))) | (with_reducible refine below_call ?_ (Drew.below (by assumption) _) (by first | omega | (simp <;> omega))))), size := (by simp), far := hz1_0, r0 := (by simp [go_sem, hc1_0, hz1_0]), r1 := (by simp [go_sem, hc1_0, hz1_0]), rf := (by simp [go_sem, hf1_0, hz1_0]), rg := (by simp [go_sem, hf1_0, hz1_0]), a0 := (by simp [go_sem]), a1 := (by simp [go_sem]), af := (by simp [go_sem]), ag := (by simp [go_sem]) }⟩
      case round =>
        obtain ⟨k, hk, hg, rfl, I⟩ := hrel
        by_cases hlt : k < n
        · have y0 := (I.out.below.cell (p := ⟨b, o + k * 2 + 0, none⟩) hlb).trans (HC.out k 0 (by simp; have := Hn1.out; omega) (by omega))
          have y1 := (I.out.below.cell (p := ⟨b, o + k * 2 + 1, none⟩) hlb).trans (HC.out k 1 (by simp; have := Hn1.out; omega) (by omega))
          have hsn : (((⟨x0, x1⟩ :: l : List R).take (k + 1)).foldl MeetJ ⟨x0, x1⟩) = MeetJ (((⟨x0, x1⟩ :: l : List R).take k).foldl MeetJ ⟨x0, x1⟩) ((⟨x0, x1⟩ :: l : List R)[k]?.getD R.d) := by
            have hkl : k < (⟨x0, x1⟩ :: l : List R).length := by simp; have := Hn1.out; omega
            rw [List.take_succ_eq_append_getElem hkl, List.foldl_append]
            simp [List.getElem?_eq_getElem hkl]
          have I' := I.out
          clear I
          generalize (⟨x0, x1⟩ :: l : List R)[k]?.getD R.d = y at y0 y1 hsn
          generalize (((⟨x0, x1⟩ :: l : List R).take k).foldl MeetJ ⟨x0, x1⟩) = a at I' hsn
          obtain ⟨p0, p1⟩ := y
          obtain ⟨s0, s1⟩ := a
          simp only [R.cell, Nat.add_zero, if_true, Nat.one_ne_zero, if_false] at y0 y1
          simp only [MeetJ] at hsn
          have Hsn := Lib.hid hsn
          clear hsn
          obtain ⟨hbe, hs, hfar, r0, r1, rf, rg, a0, a1, af, ag⟩ := I'
          simp only at a0 a1
          have hs2 : w.heap.size < wr.heap.size := by omega
          have hbw : b < wr.heap.size := by omega
          have hne : w1.heap.size ≠ w.heap.size := by omega
          have hltz : (k : Int) < (n : Int) := by omega
          have hk0 : (0 : Int) ≤ (k : Int) := by omega
          go_wp2_with fail
          go_still_tail 17, (by kernel_rfl)
          change wpList _ _ _ _ _ wr.drew
          have hD : Below wr.heap.size wr wr.drew := Drew.below ⟨1, rfl⟩ _
          generalize wr.drew = wd at hD ⊢
          have HBd : Below w.heap.size w wd := hbe.trans (hD.mono (by omega))
          have hzd := hD.size
          have q0 := (hD.cell (p := ⟨w.heap.size, 0, none⟩) hs2).trans r0
          have q1 := (hD.cell (p := ⟨w.heap.size, 1, none⟩) hs2).trans r1
          have q2 := (hD.frozen (p := ⟨w.heap.size, 0, none⟩) hs2).trans rf
          have q3 := (hD.frozen (p := ⟨w.heap.size, 1, none⟩) hs2).trans rg
          have q4 := (hD.cell (p := ⟨w1.heap.size, 0, none⟩) hs).trans a0
          have q5 := (hD.cell (p := ⟨w1.heap.size, 1, none⟩) hs).trans a1
          have q6 := (hD.frozen (p := ⟨w1.heap.size, 0, none⟩) hs).trans af
          have q7 := (hD.frozen (p := ⟨w1.heap.size, 1, none⟩) hs).trans ag
          have hzd1 : w1.heap.size < wd.heap.size := by omega
          have hzd0 : w.heap.size < wd.heap.size := by omega
          clear r0 r1 rf rg a0 a1 af ag hD
          go_wp2
          go_roundg (n - (k + 1))
          case measure => omega
          case rel =>
            refine ⟨k + 1, by omega, by omega, by go_num, ?_⟩
            exact { below := (by (try show Below _ _ _); repeat (first | (with_reducible refine Below.setCell ?_ (by first | omega | (simp <;> omega)) _) | (with_reducible refine Below.alloc ?_ (by first | omega | (simp <;> omega)) _) | (with_reducible refine Below.drew ?_) | (with_reducible exact Below.refl _ _) | (with_reducible exact HBd) | (with_reducible refine below_call ?_ (by assumption) (by first | omega | (simp <;> omega))) | (with_reducible refine below_call ?_ (Drew.below (by assumption) _) (by first | omega | (simp <;> omega))))), size := (by simp; omega), far := hfar, r0 := (by simp [go_sem, cell_set, q0, hne]), r1 := (by simp [go_sem, cell_set, q1, hne]), rf := (by simp [go_sem, q2]), rg := (by simp [go_sem, q3]), a0 := (by rw [Hsn.out]; simp [go_sem, cell_set, q4]), a1 := (by rw [Hsn.out]; simp [go_sem, cell_set, q5]), af := (by simp [go_sem, q6]), ag := (by simp [go_sem, q7]) }
        · have hltz : ¬ (k : Int) < (n : Int) := by omega
          have hke : k = n := by omega
          subst hke
          have htk : (⟨x0, x1⟩ :: l : List R).take k = ⟨x0, x1⟩ :: l := List.take_of_length_le (by simp; have := Hn1.out; omega)
          rw [htk] at I
          have I' := I.out
          have hr := Hres.out
          have hle := Hle.out
          clear I htk
          generalize ((⟨x0, x1⟩ :: l : List R).foldl MeetJ ⟨x0, x1⟩) = a at *
          obtain ⟨s0, s1⟩ := a
          obtain ⟨hbe, hs, hfar, r0, r1, rf, rg, a0, a1, af, ag⟩ := I'
          simp only at a0 a1 hr
          have hs2 : w.heap.size < wr.heap.size := by omega
          by_cases hlh : s1 < s0
          · rw [if_pos hlh] at hr
            have Hr := Lib.hid hr
            clear hr hle
            go_wp2
            refine bodyPost_ret (v := .tuple #[.agg #[.int .i64 0, .int .i64 0], .int .i64 7]) (by simp [results, Try.results76, go_sem, cell_set, r0, r1]) rfl ⟨by rw [Hr.out], (by (try show Below _ _ _); repeat (first | (with_reducible refine Below.setCell ?_ (by first | omega | (simp <;> omega)) _) | (with_reducible refine Below.alloc ?_ (by first | omega | (simp <;> omega)) _) | (with_reducible refine Below.drew ?_) | (with_reducible exact Below.refl _ _) | (with_reducible exact hbe) | (with_reducible refine below_call ?_ (by assumption) (by first | omega | (simp <;> omega))) | (with_reducible refine below_call ?_ (Drew.below (by assumption) _) (by first | omega | (simp <;> omega)))))⟩
          · rw [if_neg hlh] at hr
            have Hr := Lib.hid hr
            clear hr hle
            go_wp2
            refine bodyPost_ret (v := .tuple #[.agg #[.int .i64 s0, .int .i64 s1], .int .i64 0]) (by simp [results, Try.results76, go_sem, cell_set, r0, r1]) rfl ⟨by rw [Hr.out], (by (try show Below _ _ _); repeat (first | (with_reducible refine Below.setCell ?_ (by first | omega | (simp <;> omega)) _) | (with_reducible refine Below.alloc ?_ (by first | omega | (simp <;> omega)) _) | (with_reducible refine Below.drew ?_) | (with_reducible exact Below.refl _ _) | (with_reducible exact hbe) | (with_reducible refine below_call ?_ (by assumption) (by first | omega | (simp <;> omega))) | (with_reducible refine below_call ?_ (Drew.below (by assumption) _) (by first | omega | (simp <;> omega)))))⟩
  · have e : foldS MeetJ xs = (⟨0, 0⟩, checkS xs) := by unfold foldS; rw [if_neg h0]
    rw [e]
    generalize checkS xs = ck at hC h0 ⊢
    have hck : (ck != 0) = true := by rw [bne_iff_ne]; exact h0
    clear h0 e hx
    go_enter Try.func76, Try.ntmps76
    go_wp2_with fail
    refine (hC _ ((Below.refl _ _).alloc (Nat.le_refl _) _)).mono ?_
    rintro e w1 ⟨rfl, hb1⟩
    have hz1 := hb1.size
    try simp only [World.size_alloc, World.size_setCell, World.size_drew] at hz1
    have hc1_0 := fun o => hb1.cell (p := ⟨w.heap.size, o, none⟩) (by show w.heap.size < _; first | omega | (simp only [World.size_alloc, World.size_setCell, World.size_drew]; omega))
    have hf1_0 := fun o => hb1.frozen (p := ⟨w.heap.size, o, none⟩) (by show w.heap.size < _; first | omega | (simp only [World.size_alloc, World.size_setCell, World.size_drew]; omega))
    have hz1_0 : w.heap.size < w1.heap.size := by omega
    go_wp2
    refine bodyPost_ret (v := .tuple #[.agg #[.int .i64 0, .int .i64 0], .int .i64 ck]) (by simp [results, Try.results76, go_sem, cell_set, hc1_0]) rfl ⟨rfl, (by (try show Below _ _ _); repeat (first | (with_reducible refine Below.setCell ?_ (by first | omega | (simp <;> omega)) _) | (with_reducible refine Below.alloc ?_ (by first | omega | (simp <;> omega)) _) | (with_reducible refine Below.drew ?_) | (with_reducible exact Below.refl _ _) | (with_reducible refine below_call ?_ (by assumption) (by first | omega | (simp <;> omega))) | (with_reducible refine below_call ?_ (Drew.below (by assumption) _) (by first | omega | (simp <;> omega)))))⟩

set_option maxRecDepth 100000 in
set_option maxHeartbeats 1000000 in
theorem refHull_any (lo : Nat) (A : Option Addr) (n c : Nat) (xs : List R) (w : World) (hx : Ranges w lo A xs) (hn : Aside (xs.length = n)) (hl : n ≤ maxLen) :
    Calls Try.prog 77 #[.slice A n c] w fun e w' => e = .returned (RE (foldS HullJ xs)) ∧ Below w.heap.size w w' := by
  have hC := fun (W : World) (h : Below w.heap.size w W) => refRanges_any lo A n c xs W (hx.below h (Nat.le_refl _)) hn hl
  unfold maxLen at hl
  by_cases h0 : checkS xs = 0
  · rw [h0] at hC
    cases xs with
    | nil =>
      have e : foldS HullJ [] = (⟨0, 0⟩, 4) := by unfold foldS; rw [if_pos h0]
      rw [e]
      obtain rfl : n = 0 := hn.out.symm
      clear hx h0 e
      go_enter Try.func77, Try.ntmps77
      go_wp2_with fail
      refine (hC _ ((Below.refl _ _).alloc (Nat.le_refl _) _)).mono ?_
      rintro e w1 ⟨rfl, hb1⟩
      have hz1 := hb1.size
      try simp only [World.size_alloc, World.size_setCell, World.size_drew] at hz1
      have hc1_0 := fun o => hb1.cell (p := ⟨w.heap.size, o, none⟩) (by show w.heap.size < _; first | omega | (simp only [World.size_alloc, World.size_setCell, World.size_drew]; omega))
      have hf1_0 := fun o => hb1.frozen (p := ⟨w.heap.size, o, none⟩) (by show w.heap.size < _; first | omega | (simp only [World.size_alloc, World.size_setCell, World.size_drew]; omega))
      have hz1_0 : w.heap.size < w1.heap.size := by omega
      go_wp2
      refine bodyPost_ret (v := .tuple #[.agg #[.int .i64 0, .int .i64 0], .int .i64 4]) (by simp [results, Try.results77, go_sem, cell_set, hc1_0]) rfl ⟨rfl, (by (try show Below _ _ _); repeat (first | (with_reducible refine Below.setCell ?_ (by first | omega | (simp <;> omega)) _) | (with_reducible refine Below.alloc ?_ (by first | omega | (simp <;> omega)) _) | (with_reducible refine Below.drew ?_) | (with_reducible exact Below.refl _ _) | (with_reducible refine below_call ?_ (by assumption) (by first | omega | (simp <;> omega))) | (with_reducible refine below_call ?_ (Drew.below (by assumption) _) (by first | omega | (simp <;> omega)))))⟩
    | cons x l =>
      have hn1 : l.length + 1 = n := hn.out
      have hn0 : ((n : Int) == 0) = false := by rw [beq_eq_false_iff_ne]; omega
      have hb0 : (0 : Int) < (n : Int) := by omega
      obtain ⟨b, o, rfl, hlo, hlb, hc⟩ := hx (by simp)
      have hx0 := hc 0 0 (by simp) (by omega)
      have hx1 := hc 0 1 (by simp) (by omega)
      simp only [Nat.zero_mul, Nat.add_zero, List.getElem?_cons_zero, Option.getD_some, R.cell, if_true, Nat.one_ne_zero, if_false] at hx0 hx1
      have HC := Lib.hid hc
      have Hn1 := Lib.hid hn1
      have okx := (okR_iff _).1 ((check_ok h0).2 0 (by simp))
      simp only [List.getElem?_cons_zero, Option.getD_some] at okx
      have hfs := foldS_cons HullJ x l h0
      have hself : ((x :: l).foldl HullJ x) = l.foldl HullJ x := by
        rw [List.foldl_cons]
        congr 1
        obtain ⟨p, q⟩ := x
        simp [HullJ]
      have hle := hull_le l x (by omega)
      have hselfH : ((x :: l).foldl HullJ x) = l.foldl HullJ x := by
        rw [List.foldl_cons]
        congr 1
        obtain ⟨p, q⟩ := x
        simp [HullJ]
      generalize hres : foldS HullJ (x :: l) = res at hfs ⊢
      rw [← hself] at hfs
      rw [← hselfH] at hle
      clear hselfH
      have Hle := Lib.hid hle
      have Hres := Lib.hid hfs
      clear hfs hres hself h0 hc hx hn1 hle
      obtain ⟨x0, x1⟩ := x
      simp only at hx0 hx1 okx
      unfold RE
      go_enter Try.func77, Try.ntmps77
      go_wp2_with fail
      refine (hC _ ((Below.refl _ _).alloc (Nat.le_refl _) _)).mono ?_
      rintro e w1 ⟨rfl, hb1⟩
      have hz1 := hb1.size
      try simp only [World.size_alloc, World.size_setCell, World.size_drew] at hz1
      have hc1_0 := fun o => hb1.cell (p := ⟨w.heap.size, o, none⟩) (by show w.heap.size < _; first | omega | (simp only [World.size_alloc, World.size_setCell, World.size_drew]; omega))
      have hf1_0 := fun o => hb1.frozen (p := ⟨w.heap.size, o, none⟩) (by show w.heap.size < _; first | omega | (simp only [World.size_alloc, World.size_setCell, World.size_drew]; omega))
      have hz1_0 : w.heap.size < w1.heap.size := by omega
      have HB1 : Below w.heap.size w w1 := (by (try show Below _ _ _); repeat (first | (with_reducible refine Below.setCell ?_ (by first | omega | (simp <;> omega)) _) | (with_reducible refine Below.alloc ?_ (by first | omega | (simp <;> omega)) _) | (with_reducible refine Below.drew ?_) | (with_reducible exact Below.refl _ _) | (with_reducible refine below_call ?_ (by assumption) (by first | omega | (simp <;> omega))) | (with_reducible refine below_call ?_ (Drew.below (by assumption) _) (by first | omega | (simp <;> omega)))))
      have g0 : w1.cell? ⟨b, o, none⟩ = some (.int .i64 x0) := (HB1.cell (p := ⟨b, o, none⟩) hlb).trans hx0
      have g1 : w1.cell? ⟨b, o + 1, none⟩ = some (.int .i64 x1) := (HB1.cell (p := ⟨b, o + 1, none⟩) hlb).trans hx1
      go_wp2
      go_loopg [6] (n) (fun gg i wr => ∃ k : Nat, k ≤ n ∧ n - k ≤ gg ∧ i = .int .i64 k ∧ Aside (MixJ w w1.heap.size (((⟨x0, x1⟩ :: l).take k).foldl HullJ ⟨x0, x1⟩) wr))
      case atStart =>
        exact ⟨0, Nat.zero_le _, Nat.le_refl _, rfl, { below := (by (try show Below _ _ _); repeat (first | (with_reducible refine Below.setCell ?_ (by first | omega | (simp <;> omega)) _) | (with_reducible refine Below.alloc ?_ (by first | omega | (simp <;> omega)) _) | (with_reducible refine Below.drew ?_) | (with_reducible exact Below.refl _ _) | (with_reducible refine below_call ?_ (by assumption) (by first | omega | (simp <;> omega))) | (with_reducible refine below_call ?_ (Drew.below (by assumption) _) (by first | omega | (simp <;> omega))))), size := (by simp), far := hz1_0, r0 := (by simp [go_sem, hc1_0, hz1_0]), r1 := (by simp [go_sem, hc1_0, hz1_0]), rf := (by simp [go_sem, hf1_0, hz1_0]), rg := (by simp [go_sem, hf1_0, hz1_0]), a0 := (by simp [go_sem]), a1 := (by simp [go_sem]), af := (by simp [go_sem]), ag := (by simp [go_sem]) }⟩
      case round =>
        obtain ⟨k, hk, hg, rfl, I⟩ := hrel
        by_cases hlt : k < n
        · have y0 := (I.out.below.cell (p := ⟨b, o + k * 2 + 0, none⟩) hlb).trans (HC.out k 0 (by simp; have := Hn1.out; omega) (by omega))
          have y1 := (I.out.below.cell (p := ⟨b, o + k * 2 + 1, none⟩) hlb).trans (HC.out k 1 (by simp; have := Hn1.out; omega) (by omega))
          have hsn : (((⟨x0, x1⟩ :: l : List R).take (k + 1)).foldl HullJ ⟨x0, x1⟩) = HullJ (((⟨x0, x1⟩ :: l : List R).take k).foldl HullJ ⟨x0, x1⟩) ((⟨x0, x1⟩ :: l : List R)[k]?.getD R.d) := by
            have hkl : k < (⟨x0, x1⟩ :: l : List R).length := by simp; have := Hn1.out; omega
            rw [List.take_succ_eq_append_getElem hkl, List.foldl_append]
            simp [List.getElem?_eq_getElem hkl]
          have I' := I.out
          clear I
          generalize (⟨x0, x1⟩ :: l : List R)[k]?.getD R.d = y at y0 y1 hsn
          generalize (((⟨x0, x1⟩ :: l : List R).take k).foldl HullJ ⟨x0, x1⟩) = a at I' hsn
          obtain ⟨p0, p1⟩ := y
          obtain ⟨s0, s1⟩ := a
          simp only [R.cell, Nat.add_zero, if_true, Nat.one_ne_zero, if_false] at y0 y1
          simp only [HullJ] at hsn
          have Hsn := Lib.hid hsn
          clear hsn
          obtain ⟨hbe, hs, hfar, r0, r1, rf, rg, a0, a1, af, ag⟩ := I'
          simp only at a0 a1
          have hs2 : w.heap.size < wr.heap.size := by omega
          have hbw : b < wr.heap.size := by omega
          have hne : w1.heap.size ≠ w.heap.size := by omega
          have hltz : (k : Int) < (n : Int) := by omega
          have hk0 : (0 : Int) ≤ (k : Int) := by omega
          go_wp2_with fail
          go_still_tail 17, (by kernel_rfl)
          change wpList _ _ _ _ _ wr.drew
          have hD : Below wr.heap.size wr wr.drew := Drew.below ⟨1, rfl⟩ _
          generalize wr.drew = wd at hD ⊢
          have HBd : Below w.heap.size w wd := hbe.trans (hD.mono (by omega))
          have hzd := hD.size
          have q0 := (hD.cell (p := ⟨w.heap.size, 0, none⟩) hs2).trans r0
          have q1 := (hD.cell (p := ⟨w.heap.size, 1, none⟩) hs2).trans r1
          have q2 := (hD.frozen (p := ⟨w.heap.size, 0, none⟩) hs2).trans rf
          have q3 := (hD.frozen (p := ⟨w.heap.size, 1, none⟩) hs2).trans rg
          have q4 := (hD.cell (p := ⟨w1.heap.size, 0, none⟩) hs).trans a0
          have q5 := (hD.cell (p := ⟨w1.heap.size, 1, none⟩) hs).trans a1
          have q6 := (hD.frozen (p := ⟨w1.heap.size, 0, none⟩) hs).trans af
          have q7 := (hD.frozen (p := ⟨w1.heap.size, 1, none⟩) hs).trans ag
          have hzd1 : w1.heap.size < wd.heap.size := by omega
          have hzd0 : w.heap.size < wd.heap.size := by omega
          clear r0 r1 rf rg a0 a1 af ag hD
          go_wp2
          go_roundg (n - (k + 1))
          case measure => omega
          case rel =>
            refine ⟨k + 1, by omega, by omega, by go_num, ?_⟩
            exact { below := (by (try show Below _ _ _); repeat (first | (with_reducible refine Below.setCell ?_ (by first | omega | (simp <;> omega)) _) | (with_reducible refine Below.alloc ?_ (by first | omega | (simp <;> omega)) _) | (with_reducible refine Below.drew ?_) | (with_reducible exact Below.refl _ _) | (with_reducible exact HBd) | (with_reducible refine below_call ?_ (by assumption) (by first | omega | (simp <;> omega))) | (with_reducible refine below_call ?_ (Drew.below (by assumption) _) (by first | omega | (simp <;> omega))))), size := (by simp; omega), far := hfar, r0 := (by simp [go_sem, cell_set, q0, hne]), r1 := (by simp [go_sem, cell_set, q1, hne]), rf := (by simp [go_sem, q2]), rg := (by simp [go_sem, q3]), a0 := (by rw [Hsn.out]; simp [go_sem, cell_set, q4]), a1 := (by rw [Hsn.out]; simp [go_sem, cell_set, q5]), af := (by simp [go_sem, q6]), ag := (by simp [go_sem, q7]) }
        · have hltz : ¬ (k : Int) < (n : Int) := by omega
          have hke : k = n := by omega
          subst hke
          have htk : (⟨x0, x1⟩ :: l : List R).take k = ⟨x0, x1⟩ :: l := List.take_of_length_le (by simp; have := Hn1.out; omega)
          rw [htk] at I
          have I' := I.out
          have hr := Hres.out
          have hle := Hle.out
          clear I htk
          generalize ((⟨x0, x1⟩ :: l : List R).foldl HullJ ⟨x0, x1⟩) = a at *
          obtain ⟨s0, s1⟩ := a
          obtain ⟨hbe, hs, hfar, r0, r1, rf, rg, a0, a1, af, ag⟩ := I'
          simp only at a0 a1 hr
          have hs2 : w.heap.size < wr.heap.size := by omega
          rw [if_neg (show ¬ s1 < s0 by simp only at hle; omega)] at hr
          have Hr := Lib.hid hr
          clear hr hle
          go_wp2
          refine bodyPost_ret (v := .tuple #[.agg #[.int .i64 s0, .int .i64 s1], .int .i64 0]) (by simp [results, Try.results77, go_sem, cell_set, r0, r1]) rfl ⟨by rw [Hr.out], (by (try show Below _ _ _); repeat (first | (with_reducible refine Below.setCell ?_ (by first | omega | (simp <;> omega)) _) | (with_reducible refine Below.alloc ?_ (by first | omega | (simp <;> omega)) _) | (with_reducible refine Below.drew ?_) | (with_reducible exact Below.refl _ _) | (with_reducible exact hbe) | (with_reducible refine below_call ?_ (by assumption) (by first | omega | (simp <;> omega))) | (with_reducible refine below_call ?_ (Drew.below (by assumption) _) (by first | omega | (simp <;> omega)))))⟩
  · have e : foldS HullJ xs = (⟨0, 0⟩, checkS xs) := by unfold foldS; rw [if_neg h0]
    rw [e]
    generalize checkS xs = ck at hC h0 ⊢
    have hck : (ck != 0) = true := by rw [bne_iff_ne]; exact h0
    clear h0 e hx
    go_enter Try.func77, Try.ntmps77
    go_wp2_with fail
    refine (hC _ ((Below.refl _ _).alloc (Nat.le_refl _) _)).mono ?_
    rintro e w1 ⟨rfl, hb1⟩
    have hz1 := hb1.size
    try simp only [World.size_alloc, World.size_setCell, World.size_drew] at hz1
    have hc1_0 := fun o => hb1.cell (p := ⟨w.heap.size, o, none⟩) (by show w.heap.size < _; first | omega | (simp only [World.size_alloc, World.size_setCell, World.size_drew]; omega))
    have hf1_0 := fun o => hb1.frozen (p := ⟨w.heap.size, o, none⟩) (by show w.heap.size < _; first | omega | (simp only [World.size_alloc, World.size_setCell, World.size_drew]; omega))
    have hz1_0 : w.heap.size < w1.heap.size := by omega
    go_wp2
    refine bodyPost_ret (v := .tuple #[.agg #[.int .i64 0, .int .i64 0], .int .i64 ck]) (by simp [results, Try.results77, go_sem, cell_set, hc1_0]) rfl ⟨rfl, (by (try show Below _ _ _); repeat (first | (with_reducible refine Below.setCell ?_ (by first | omega | (simp <;> omega)) _) | (with_reducible refine Below.alloc ?_ (by first | omega | (simp <;> omega)) _) | (with_reducible refine Below.drew ?_) | (with_reducible exact Below.refl _ _) | (with_reducible refine below_call ?_ (by assumption) (by first | omega | (simp <;> omega))) | (with_reducible refine below_call ?_ (Drew.below (by assumption) _) (by first | omega | (simp <;> omega)))))⟩


end Go.Proofs.Ytfohdafijfjefaa
