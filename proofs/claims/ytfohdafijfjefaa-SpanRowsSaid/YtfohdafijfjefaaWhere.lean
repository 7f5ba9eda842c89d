/- Contract: span.Where. -/
import Derived.Test.YtfohdafijfjefaaStretch
import Derived.Test.YtfohdafijfjefaaIsTab
import Derived.Test.YtfohdafijfjefaaSetsW
set_option linter.unusedSimpArgs false
set_option linter.unusedVariables false
namespace Go.Proofs.Ytfohdafijfjefaa
open Go.RowKit Go.Shelf
attribute [local go_sem ↓] Go.wp_at_zero Go.wp_at_succ

def clampY (y : R) : R := ⟨max y.lo (-2000000000), min y.hi 2000000000⟩
def whStep (t : List R) (y : R) (acc : List R) (i : Nat) : List R :=
  if (stretchS (t[i]?.getD R.d) (t[i + 1]?.getD R.d) y).2 = true then addR acc (stretchS (t[i]?.getD R.d) (t[i + 1]?.getD R.d) y).1 else acc
def whF (t : List R) (y : R) (k : Nat) : List R := (List.range k).foldl (whStep t y) []
def whereS (t : List R) (y : R) : List R × Int := if tableS t = false ∨ okR y = false then ([], 2) else (whF t (clampY y) (t.length - 1), 0)
theorem whF_succ (t : List R) (y : R) (k : Nat) : whF t y (k + 1) = whStep t y (whF t y k) k := by
  unfold whF; rw [List.range_succ, List.foldl_append]; rfl

theorem tableS_iff (t : List R) : tableS t = true ↔ rowsOk t t.length ∧ 2 ≤ t.length ∧ t.length ≤ 60 := by
  unfold tableS
  rw [Bool.and_eq_true, decide_eq_true_eq, btw1]
  constructor
  · rintro ⟨h, h'⟩; exact ⟨h, by omega⟩
  · rintro ⟨h, h'⟩; exact ⟨h, by omega⟩
theorem rowsOk_at {t : List R} {n : Nat} (h : rowsOk t n) (k : Nat) (hk : k < n) : (-1000000000 ≤ (t[k]?.getD R.d).lo ∧ (t[k]?.getD R.d).lo ≤ 1000000000) ∧ (-1000000000 ≤ (t[k]?.getD R.d).hi ∧ (t[k]?.getD R.d).hi ≤ 1000000000) := (btw2' _ _ _ _).1 (h k hk).1
where btw2' (lo hi x y : Int) : btw lo hi [x, y] = true ↔ (lo ≤ x ∧ x ≤ hi) ∧ (lo ≤ y ∧ y ≤ hi) := by simp [btw]

theorem stretch_hi (a b y : R) (ha : -1000000000 ≤ a.lo ∧ a.lo ≤ 1000000000) (hb : -1000000000 ≤ b.lo ∧ b.lo ≤ 1000000000) : -4000000000000000000 ≤ (stretchS a b y).1.hi ∧ (stretchS a b y).1.hi ≤ 4000000000000000000 := by
  unfold stretchS
  split
  · simp only; omega
  · unfold strOut
    have := ratioS_bd (strHigh a b y) (b.lo - a.lo) (strRise a b)
    simp only; omega

set_option maxRecDepth 100000 in
set_option maxHeartbeats 4000000 in
theorem Where_any (lo : Nat) (A : Option Addr) (n c : Nat) (t : List R) (y0 y1 : Int) (w : World) (hx : Ranges w lo A t) (hn : Aside (t.length = n)) (hnc : n ≤ c) (hl : c ≤ maxLen) :
    Calls Try.prog 62 #[.slice A n c, .agg #[.int .i64 y0, .int .i64 y1]] w (RetPost w (whereS t ⟨y0, y1⟩)) := by
  have hT := fun (W : World) (h : Below w.heap.size w W) => isTable_any lo A n c t W (hx.below h (Nat.le_refl _)) hn (Nat.le_trans hnc hl)
  have hR := fun (A : Option Addr) (W : World) h => isRange_any 0 A 1 1 [⟨y0, y1⟩] W h rfl one_le
  have e0 : [(⟨y0, y1⟩ : R)].all okR = okR ⟨y0, y1⟩ := by simp
  rw [e0] at hR
  unfold maxLen at hl
  unfold whereS
  cases h0 : tableS t with
  | false =>
    rw [h0] at hT
    rw [if_pos (.inl rfl)]
    clear hx
    go_enter Try.func62, Try.ntmps62
    go_wp2_with fail
    refine (hT _ ((Below.refl _ _).alloc (Nat.le_refl _) _)).mono ?_
    rintro e w1 ⟨rfl, hb1⟩
    have hz1 := hb1.size
    try simp only [World.size_alloc, World.size_setCell, World.size_drew] at hz1
    have hc1_0 := fun o => hb1.cell (p := ⟨w.heap.size, o, none⟩) (by show w.heap.size < _; first | omega | (simp only [World.size_alloc, World.size_setCell, World.size_drew]; omega))
    have hf1_0 := fun o => hb1.frozen (p := ⟨w.heap.size, o, none⟩) (by show w.heap.size < _; first | omega | (simp only [World.size_alloc, World.size_setCell, World.size_drew]; omega))
    have hz1_0 : w.heap.size < w1.heap.size := by omega
    go_wp2
    go_ret2
    exact ⟨.slice none 0 0, rfl, OwnR.nil _ _, fun _ => rfl, (by (try show Below _ _ _); repeat (first | (with_reducible refine Below.setCell ?_ (by first | omega | (simp <;> omega)) _) | (with_reducible refine Below.alloc ?_ (by first | omega | (simp <;> omega)) _) | (with_reducible refine Below.drew ?_) | (with_reducible exact Below.refl _ _) | (with_reducible refine below_call ?_ (by assumption) (by first | omega | (simp <;> omega))) | (with_reducible refine below_call ?_ (Drew.below (by assumption) _) (by first | omega | (simp <;> omega)))))⟩
  | true =>
    obtain ⟨hrows, hn2, hn60⟩ := (tableS_iff t).1 h0
    rw [h0] at hT
    cases h1 : okR ⟨y0, y1⟩ with
    | false =>
      rw [h1] at hR
      rw [if_pos (.inr rfl)]
      clear hx hrows
      go_enter Try.func62, Try.ntmps62
      go_wp2_with fail
      refine (hT _ ((Below.refl _ _).alloc (Nat.le_refl _) _)).mono ?_
      rintro e w1 ⟨rfl, hb1⟩
      have hz1 := hb1.size
      try simp only [World.size_alloc, World.size_setCell, World.size_drew] at hz1
      have hc1_0 := fun o => hb1.cell (p := ⟨w.heap.size, o, none⟩) (by show w.heap.size < _; first | omega | (simp only [World.size_alloc, World.size_setCell, World.size_drew]; omega))
      have hf1_0 := fun o => hb1.frozen (p := ⟨w.heap.size, o, none⟩) (by show w.heap.size < _; first | omega | (simp only [World.size_alloc, World.size_setCell, World.size_drew]; omega))
      have hz1_0 : w.heap.size < w1.heap.size := by omega
      go_wp2_with fail
      refine (hR _ _ (Elems.of1 (by simp [go_sem, hc1_0, hz1_0]) (by simp [go_sem, hc1_0, hz1_0]) (by simp))).mono ?_
      rintro e w2 ⟨rfl, hb2⟩
      have hz2 := hb2.size
      try simp only [World.size_alloc, World.size_setCell, World.size_drew] at hz2
      have hc2_0 := fun o => hb2.cell (p := ⟨w.heap.size, o, none⟩) (by show w.heap.size < _; first | omega | (simp only [World.size_alloc, World.size_setCell, World.size_drew]; omega))
      have hf2_0 := fun o => hb2.frozen (p := ⟨w.heap.size, o, none⟩) (by show w.heap.size < _; first | omega | (simp only [World.size_alloc, World.size_setCell, World.size_drew]; omega))
      have hz2_0 : w.heap.size < w2.heap.size := by omega
      go_wp2
      go_ret2
      exact ⟨.slice none 0 0, rfl, OwnR.nil _ _, fun _ => rfl, (by (try show Below _ _ _); repeat (first | (with_reducible refine Below.setCell ?_ (by first | omega | (simp <;> omega)) _) | (with_reducible refine Below.alloc ?_ (by first | omega | (simp <;> omega)) _) | (with_reducible refine Below.drew ?_) | (with_reducible exact Below.refl _ _) | (with_reducible refine below_call ?_ (by assumption) (by first | omega | (simp <;> omega))) | (with_reducible refine below_call ?_ (Drew.below (by assumption) _) (by first | omega | (simp <;> omega)))))⟩
    | true =>
      rw [h1] at hR
      rw [if_neg (by simp)]
      have k1 := (okR_iff _).1 h1
      simp only at k1
      have hcl : clampY ⟨y0, y1⟩ = ⟨max y0 (-2000000000), min y1 2000000000⟩ := rfl
      rw [hcl]
      generalize hm0 : max y0 (-2000000000) = m0
      generalize hm1 : min y1 2000000000 = m1
      have hmb : -1000000000000000 ≤ m0 ∧ m0 ≤ 1000000000000000 ∧ -1000000000000000 ≤ m1 ∧ m1 ≤ 1000000000000000 := by omega
      have Hrows := Lib.hid hrows
      rw [hn.out] at hn2 hn60
      rw [hn.out]
      obtain ⟨b, o, rfl, hlo, hlb, hc⟩ := hx (by have := hn.out; omega)
      have hcell := Lib.hid hc
      generalize hres : whF t ⟨m0, m1⟩ (n - 1) = res
      have Hres := Lib.hid hres
      clear hrows hc hcl hres hx h0 h1 e0
      have hcn : ¬ c = 1 := by omega
      have hM0 := Lib.hid hm0
      have hM1 := Lib.hid hm1
      clear hm0 hm1
      go_enter Try.func62, Try.ntmps62
      go_wp2_with fail
      refine (hT _ ((Below.refl _ _).alloc (Nat.le_refl _) _)).mono ?_
      rintro e w1 ⟨rfl, hb1⟩
      have hz1 := hb1.size
      try simp only [World.size_alloc, World.size_setCell, World.size_drew] at hz1
      have hc1_0 := fun o => hb1.cell (p := ⟨w.heap.size, o, none⟩) (by show w.heap.size < _; first | omega | (simp only [World.size_alloc, World.size_setCell, World.size_drew]; omega))
      have hf1_0 := fun o => hb1.frozen (p := ⟨w.heap.size, o, none⟩) (by show w.heap.size < _; first | omega | (simp only [World.size_alloc, World.size_setCell, World.size_drew]; omega))
      have hz1_0 : w.heap.size < w1.heap.size := by omega
      go_wp2_with fail
      refine (hR _ _ (Elems.of1 (by simp [go_sem, hc1_0, hz1_0]) (by simp [go_sem, hc1_0, hz1_0]) (by simp))).mono ?_
      rintro e w2 ⟨rfl, hb2⟩
      have hz2 := hb2.size
      try simp only [World.size_alloc, World.size_setCell, World.size_drew] at hz2
      have hc2_0 := fun o => hb2.cell (p := ⟨w.heap.size, o, none⟩) (by show w.heap.size < _; first | omega | (simp only [World.size_alloc, World.size_setCell, World.size_drew]; omega))
      have hf2_0 := fun o => hb2.frozen (p := ⟨w.heap.size, o, none⟩) (by show w.heap.size < _; first | omega | (simp only [World.size_alloc, World.size_setCell, World.size_drew]; omega))
      have hz2_0 : w.heap.size < w2.heap.size := by omega
      have hB2 : Below w.heap.size w w2 := (by (try show Below _ _ _); repeat (first | (with_reducible refine Below.setCell ?_ (by first | omega | (simp <;> omega)) _) | (with_reducible refine Below.alloc ?_ (by first | omega | (simp <;> omega)) _) | (with_reducible refine Below.drew ?_) | (with_reducible exact Below.refl _ _) | (with_reducible refine below_call ?_ (by assumption) (by first | omega | (simp <;> omega))) | (with_reducible refine below_call ?_ (Drew.below (by assumption) _) (by first | omega | (simp <;> omega)))))
      have f0 : w2.cell? ⟨w.heap.size, 0, none⟩ = some (.int .i64 y0) := by simp [go_sem, hc2_0, hc1_0, hz1_0]
      have f1 : w2.cell? ⟨w.heap.size, 1, none⟩ = some (.int .i64 y1) := by simp [go_sem, hc2_0, hc1_0, hz1_0]
      have f2 : w2.frozen? ⟨w.heap.size, 0, none⟩ = false := by simp [go_sem, hf2_0, hf1_0, hz1_0]
      have f3 : w2.frozen? ⟨w.heap.size, 1, none⟩ = false := by simp [go_sem, hf2_0, hf1_0, hz1_0]
      clear hc1_0 hf1_0 hc2_0 hf2_0 hb1 hb2 hT hR
      go_upto_region 5 with (fail)
      obtain ⟨wz, hwz⟩ : ∃ wz, (w2.setCell ⟨w.heap.size, 0, none⟩ (.int .i64 (max y0 (-2000000000)))).setCell ⟨w.heap.size, 1, none⟩ (.int .i64 (min y1 2000000000)) = wz := ⟨_, rfl⟩
      have hsz : w2.heap.size = wz.heap.size := by rw [← hwz]; simp
      have hyz0 : wz.cell? ⟨w.heap.size, 0, none⟩ = some (.int .i64 m0) := by rw [← hwz, ← hM0.out]; simp [cell_set, f0]
      have hyz1 : wz.cell? ⟨w.heap.size, 1, none⟩ = some (.int .i64 m1) := by rw [← hwz, ← hM1.out]; simp [cell_set, f1]
      have hBz : Below w.heap.size w wz := by rw [← hwz]; exact (by (try show Below _ _ _); repeat (first | (with_reducible refine Below.setCell ?_ (by first | omega | (simp <;> omega)) _) | (with_reducible refine Below.alloc ?_ (by first | omega | (simp <;> omega)) _) | (with_reducible refine Below.drew ?_) | (with_reducible exact Below.refl _ _) | (with_reducible exact hB2) | (with_reducible refine below_call ?_ (by assumption) (by first | omega | (simp <;> omega))) | (with_reducible refine below_call ?_ (Drew.below (by assumption) _) (by first | omega | (simp <;> omega)))))
      rw [hwz, hsz]
      have hwz0 : w.heap.size < wz.heap.size := by omega
      clear hwz hsz f0 f1 f2 f3 hB2 hM0 hM1
      have hst : CmI wz (whF t ⟨m0, m1⟩ 0) 0 (wz.alloc (.cells #[.slice none 0 0] 143)) := { below := (by (try show Below _ _ _); repeat (first | (with_reducible refine Below.setCell ?_ (by first | omega | (simp <;> omega)) _) | (with_reducible refine Below.alloc ?_ (by first | omega | (simp <;> omega)) _) | (with_reducible refine Below.drew ?_) | (with_reducible exact Below.refl _ _) | (with_reducible refine below_call ?_ (by assumption) (by first | omega | (simp <;> omega))) | (with_reducible refine below_call ?_ (Drew.below (by assumption) _) (by first | omega | (simp <;> omega))))), size := by simp, bf := by simp [go_sem], box := ⟨.slice none 0 0, by simp [go_sem], OwnR.nil _ _, fun _ => rfl⟩, bd := fun x hx => absurd hx (by simp [whF]), len := by simp [whF] }
      have Hst := Lib.hid hst
      clear hst
      go_wp2
      go_loopg [30] (n) (fun gg i wr => ∃ k : Nat, k ≤ n - 1 ∧ n - 1 - k ≤ gg ∧ i = .int .i64 k ∧ Aside (CmI wz (whF t ⟨m0, m1⟩ k) k wr))
      case atStart => exact ⟨0, Nat.zero_le _, by omega, rfl, Hst.out⟩
      case round =>
        obtain ⟨k, hk, hg, rfl, I⟩ := hrel
        have hsz := I.out.size
        have hbb : b < wz.heap.size := by omega
        by_cases hlt : k < n - 1
        · have hBr := I.out.below
          have hcc := hcell.out
          have q0 := ((hBr.cell (p := ⟨b, o + k * 2 + 0, none⟩) hbb).trans (hBz.cell (p := ⟨b, o + k * 2 + 0, none⟩) hlb)).trans (hcc k 0 (by have := hn.out; omega) (by omega))
          have q1 := ((hBr.cell (p := ⟨b, o + k * 2 + 1, none⟩) hbb).trans (hBz.cell (p := ⟨b, o + k * 2 + 1, none⟩) hlb)).trans (hcc k 1 (by have := hn.out; omega) (by omega))
          have q2 := ((hBr.cell (p := ⟨b, o + (k + 1) * 2 + 0, none⟩) hbb).trans (hBz.cell (p := ⟨b, o + (k + 1) * 2 + 0, none⟩) hlb)).trans (hcc (k + 1) 0 (by have := hn.out; omega) (by omega))
          have q3 := ((hBr.cell (p := ⟨b, o + (k + 1) * 2 + 1, none⟩) hbb).trans (hBz.cell (p := ⟨b, o + (k + 1) * 2 + 1, none⟩) hlb)).trans (hcc (k + 1) 1 (by have := hn.out; omega) (by omega))
          have q4 := (hBr.cell (p := ⟨w.heap.size, 0, none⟩) hwz0).trans hyz0
          have q5 := (hBr.cell (p := ⟨w.heap.size, 1, none⟩) hwz0).trans hyz1
          rw [show o + (k + 1) * 2 = o + 2 + k * 2 by omega] at q2 q3
          obtain ⟨ta, ta'⟩ := rowsOk_at Hrows.out k (by have := hn.out; omega)
          obtain ⟨tb, tb'⟩ := rowsOk_at Hrows.out (k + 1) (by have := hn.out; omega)
          have hsn := Lib.hid (whF_succ t ⟨m0, m1⟩ k)
          have hdef : ∀ acc, whStep t ⟨m0, m1⟩ acc k = if (stretchS (t[k]?.getD R.d) (t[k + 1]?.getD R.d) ⟨m0, m1⟩).2 = true then addR acc (stretchS (t[k]?.getD R.d) (t[k + 1]?.getD R.d) ⟨m0, m1⟩).1 else acc := fun _ => rfl
          have hhi := stretch_hi (t[k]?.getD R.d) (t[k + 1]?.getD R.d) ⟨m0, m1⟩ ta tb
          clear hcc
          generalize t[k]?.getD R.d = x at *
          generalize t[k + 1]?.getD R.d = z at *
          obtain ⟨x0, x1⟩ := x
          obtain ⟨z0, z1⟩ := z
          simp only [R.cell, Nat.add_zero, if_true, Nat.one_ne_zero, if_false] at q0 q1 q2 q3 ta ta' tb tb'
          have hstr := fun W => stretch_any x0 x1 z0 z1 m0 m1 ta ta' tb tb' (by omega) (by omega) W
          generalize stretchS ⟨x0, x1⟩ ⟨z0, z1⟩ ⟨m0, m1⟩ = sr at *
          obtain ⟨⟨s0, s1⟩, sb⟩ := sr
          simp only at hstr hdef hhi
          have Hdef := Lib.hid hdef
          clear hdef
          have hltz : (k : Int) < ((n - 1 : Nat) : Int) := by omega
          have hk0 : (0 : Int) ≤ (k : Int) := by omega
          have hkn : (k : Int) < (n : Int) := by omega
          have hkn' : k < n := by omega
          have hwr0 : w.heap.size < wr.heap.size := by omega
          have hbr : b < wr.heap.size := by omega
          go_upto_region 8 with (fail)
          obtain ⟨wv, hwv⟩ : ∃ wv, wr.alloc (.cells #[.int .i64 z0, .int .i64 z1] 81) = wv := ⟨_, rfl⟩
          have p0 : wv.cell? ⟨b, o + k * 2, none⟩ = some (.int .i64 x0) := by rw [← hwv]; simp [go_sem, q0, hbr]
          have p1 : wv.cell? ⟨b, o + k * 2 + 1, none⟩ = some (.int .i64 x1) := by rw [← hwv]; simp [go_sem, q1, hbr]
          have p2 : wv.cell? ⟨wr.heap.size, 0, none⟩ = some (.int .i64 z0) := by rw [← hwv]; simp [go_sem]
          have p3 : wv.cell? ⟨wr.heap.size, 1, none⟩ = some (.int .i64 z1) := by rw [← hwv]; simp [go_sem]
          have p4 : wv.cell? ⟨w.heap.size, 0, none⟩ = some (.int .i64 m0) := by rw [← hwv]; simp [go_sem, q4, hwr0]
          have p5 : wv.cell? ⟨w.heap.size, 1, none⟩ = some (.int .i64 m1) := by rw [← hwv]; simp [go_sem, q5, hwr0]
          have hbv : Below wr.heap.size wr wv := by rw [← hwv]; exact (by (try show Below _ _ _); repeat (first | (with_reducible refine Below.setCell ?_ (by first | omega | (simp <;> omega)) _) | (with_reducible refine Below.alloc ?_ (by first | omega | (simp <;> omega)) _) | (with_reducible refine Below.drew ?_) | (with_reducible exact Below.refl _ _) | (with_reducible refine below_call ?_ (by assumption) (by first | omega | (simp <;> omega))) | (with_reducible refine below_call ?_ (Drew.below (by assumption) _) (by first | omega | (simp <;> omega)))))
          have hzv : wr.heap.size < wv.heap.size := by rw [← hwv]; simp
          rw [hwv]
          clear hwv q0 q1 q2 q3 q4 q5
          have hzv1 : b < wv.heap.size := by omega
          have hne1 : ¬ wv.heap.size = b := by omega
          have hne2 : ¬ wv.heap.size = w.heap.size := by omega
          have hne3 : ¬ wv.heap.size = wr.heap.size := by omega
          have hzv2 : w.heap.size < wv.heap.size := by omega
          go_cut [9, 10] (fun s9 s10 wx => ∃ p : Nat, s9 = .pointer (some ⟨p, 0, none⟩) ∧ s10 = .bool sb ∧ Aside (Below wv.heap.size wv wx ∧ wx.cell? ⟨p, 0, none⟩ = some (.int .i64 s0) ∧ wx.cell? ⟨p, 1, none⟩ = some (.int .i64 s1)))
          case first =>
            go_region_held3 (fun w' => w'.cell? ⟨b, o + k * 2, none⟩ = some (.int .i64 x0) ∧ w'.cell? ⟨b, o + k * 2 + 1, none⟩ = some (.int .i64 x1) ∧ w'.cell? ⟨wr.heap.size, 0, none⟩ = some (.int .i64 z0) ∧ w'.cell? ⟨wr.heap.size, 1, none⟩ = some (.int .i64 z1) ∧ w'.cell? ⟨w.heap.size, 0, none⟩ = some (.int .i64 m0) ∧ w'.cell? ⟨w.heap.size, 1, none⟩ = some (.int .i64 m1))
              (first | ((try refine ⟨?_, ?_, ?_, ?_, ?_, ?_⟩) <;> (simp [go_sem, cell_set, h4a, h4b, h4c, p0, p1, p2, p3, p4, p5, hzv, hzv1, hzv2, h4z, h4y, h4x, hne1, hne2, hne3]; done)) | go_keep)
              ((go_at_call 117; refine (hstr _).mono ?_; rintro e w4 ⟨rfl, hb4⟩; have hz4 := hb4.size; (try simp only [World.size_alloc, World.size_drew] at hz4); have h4a := fun o => hb4.cell (p := ⟨b, o, none⟩) (by show b < _; first | omega | (simp; omega)); have h4b := fun o => hb4.cell (p := ⟨wr.heap.size, o, none⟩) (by show wr.heap.size < _; first | omega | (simp; omega)); have h4c := fun o => hb4.cell (p := ⟨w.heap.size, o, none⟩) (by show w.heap.size < _; first | omega | (simp; omega)); have h4x : b < w4.heap.size := (by omega); have h4y : wr.heap.size < w4.heap.size := (by omega); have h4z : w.heap.size < w4.heap.size := (by omega); have h4w := fun (h : wv.heap.size < _) => Nat.lt_of_lt_of_le h hb4.size; have h4p := fun o h => hb4.cell (p := ⟨wv.heap.size, o, none⟩) h; have h4q := fun o h => hb4.frozen (p := ⟨wv.heap.size, o, none⟩) h))
            all_goals
              go_wp2_with fail
              go_meet
              refine ⟨_, rfl, rfl, (by (try show Below _ _ _); repeat (first | (with_reducible refine Below.setCell ?_ (by first | omega | (simp <;> omega)) _) | (with_reducible refine Below.alloc ?_ (by first | omega | (simp <;> omega)) _) | (with_reducible refine Below.drew ?_) | (with_reducible exact Below.refl _ _) | (with_reducible refine below_call ?_ (by assumption) (by first | omega | (simp <;> omega))) | (with_reducible refine below_call ?_ (Drew.below (by assumption) _) (by first | omega | (simp <;> omega))))), (by first | (simp [go_sem, cell_set, h4p, h4w]; done) | (simp [go_sem, cell_set]; done)), (by first | (simp [go_sem, cell_set, h4p, h4w]; done) | (simp [go_sem, cell_set]; done))⟩
          case rest =>
            obtain ⟨p, rfl, rfl, I2⟩ := hcut
            obtain ⟨wx, hwx, I3⟩ : ∃ wx, wx = _ ∧ (Below wv.heap.size wv wx ∧ wx.cell? ⟨p, 0, none⟩ = some (.int .i64 s0) ∧ wx.cell? ⟨p, 1, none⟩ = some (.int .i64 s1)) := ⟨_, rfl, I2.out⟩
            subst hwx
            clear I2
            obtain ⟨hbw, r0, r1⟩ := I3
            have J := Lib.hid (I.out.later (below_call hbv hbw (by omega)))
            have hzx := hbw.size
            clear I p0 p1 p2 p3 p4 p5
            cases sb with
            | true =>
              obtain ⟨v, v1, v2, v3⟩ := J.out.box
              have hadd := add_any (wz.heap.size + 1) wz.heap.size v (whF t ⟨m0, m1⟩ k) s0 s1 wx (by omega) (by omega) v1 J.out.bf v2 v3 (by have := J.out.len; omega) J.out.bd
              have e1 := Hdef.out (whF t ⟨m0, m1⟩ k)
              rw [if_pos rfl, ← hsn.out] at e1
              have K := Lib.hid (fun (w4 : World) (ha : AddPost (wz.heap.size + 1) wz.heap.size (addR (whF t ⟨m0, m1⟩ k) ⟨s0, s1⟩) wx w4) => J.out.added ha hhi)
              rw [← e1] at hadd K
              clear v1 v2 v3 e1
              go_wp2_with fail
              refine hadd.mono ?_
              rintro e w4 ⟨⟨u, rfl⟩, ha⟩
              have K' := Lib.hid (K.out w4 ha)
              clear ha hadd K
              go_wp2
              go_roundg (n - 1 - (k + 1))
              case measure => omega
              case rel => exact ⟨k + 1, by omega, by omega, by go_num, K'.out⟩
            | false =>
              have e1 := Hdef.out (whF t ⟨m0, m1⟩ k)
              rw [if_neg (by decide), ← hsn.out] at e1
              have K := Lib.hid (J.out.step (Nat.le_succ k))
              rw [← e1] at K
              clear e1
              go_wp2
              go_roundg (n - 1 - (k + 1))
              case measure => omega
              case rel => exact ⟨k + 1, by omega, by omega, by go_num, K.out⟩
        · obtain rfl : k = n - 1 := by omega
          obtain ⟨v, v1, v2, v3⟩ := I.out.box
          rw [Hres.out] at v2 v3
          obtain ⟨Av, cv, hvv, _, _, _⟩ := v2.reads
          subst hvv
          have V2 := Lib.hid v2
          have V3 := Lib.hid v3
          have hB := hBz.trans (I.out.below.mono (by omega))
          clear v2 v3
          generalize hrl : res.length = na at *
          have Hrl := Lib.hid hrl
          clear hrl
          go_wp2
          go_ret2
          exact ⟨.slice Av na cv, rfl, V2.out.base (by omega), V3.out, hB⟩

end Go.Proofs.Ytfohdafijfjefaa
