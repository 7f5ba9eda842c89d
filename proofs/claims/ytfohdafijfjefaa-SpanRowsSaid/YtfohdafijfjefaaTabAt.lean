/- Contract: (span.table).at. -/
import Derived.Test.YtfohdafijfjefaaSearch
import Derived.Test.YtfohdafijfjefaaAid
set_option linter.unusedSimpArgs false
set_option linter.unusedVariables false
namespace Go.Proofs.Ytfohdafijfjefaa
open Go.RowKit Go.Shelf
attribute [local go_sem ↓] Go.wp_at_zero Go.wp_at_succ

theorem ratio_btw (a b c M : Int) (ha : -M ≤ a ∧ a ≤ M) (hb : 0 ≤ b ∧ b ≤ c) (hc : 0 < c) : -M ≤ a * b / c ∧ a * b / c ≤ cdiv (a * b) c ∧ cdiv (a * b) c ≤ M := by
  have hM : 0 ≤ M := by omega
  have h1 : a * b ≤ M * c := Int.le_trans (Int.mul_le_mul_of_nonneg_right ha.2 hb.1) (Int.mul_le_mul_of_nonneg_left hb.2 hM)
  have h2 : -(M * c) ≤ a * b := by
    have e1 := Int.mul_le_mul_of_nonneg_right ha.1 hb.1
    have e2 := Int.mul_le_mul_of_nonneg_left hb.2 hM
    rw [Int.neg_mul] at e1
    omega
  refine ⟨(le_div_iff _ _ _ hc).2 (by rw [Int.mul_neg, Int.mul_comm c M]; omega), div_le_cdiv _ _ hc, (cdiv_le_iff _ _ _ hc).2 (by rw [Int.mul_comm c M]; exact h1)⟩

theorem ratio_exact (a b c M : Int) (ha : -M ≤ a ∧ a ≤ M) (hM : M ≤ 100000000000000) (hb : 0 ≤ b ∧ b ≤ c) (hc : 0 < c) : ratioS a b c = (a * b / c, cdiv (a * b) c) := by
  obtain ⟨h1, h2⟩ := ratio_clip a b c hc
  have h3 := ratio_btw a b c M ha hb hc
  unfold clip at h1 h2
  exact Prod.ext (by simp only; omega) (by simp only; omega)

theorem seg_bd {t : List R} {x : Int} {k : Nat} (hok : rowsOk t t.length) (hs : Seg t x k) : 
    ((-1000000000 ≤ (t[k]?.getD R.d).lo ∧ (t[k]?.getD R.d).lo ≤ 1000000000) ∧ (-1000000000 ≤ (t[k]?.getD R.d).hi ∧ (t[k]?.getD R.d).hi ≤ 1000000000)) ∧
    ((-1000000000 ≤ (t[k + 1]?.getD R.d).lo ∧ (t[k + 1]?.getD R.d).lo ≤ 1000000000) ∧ (-1000000000 ≤ (t[k + 1]?.getD R.d).hi ∧ (t[k + 1]?.getD R.d).hi ≤ 1000000000)) ∧
    (t[k]?.getD R.d).lo ≤ x ∧ x ≤ (t[k + 1]?.getD R.d).lo ∧ (t[k]?.getD R.d).lo < (t[k + 1]?.getD R.d).lo := by
  obtain ⟨h1, h2, h3⟩ := hs
  have h4 := (hok (k + 1) h1).2 (by omega)
  simp only [Nat.add_sub_cancel] at h4
  exact ⟨rowsOk_at hok k (by omega), rowsOk_at hok (k + 1) h1, h2, by omega, h4⟩

theorem valAt_bd {t : List R} {x : Int} {k : Nat} (hok : rowsOk t t.length) (hs : Seg t x k) : -3000000000 ≤ (valAt (t[k]?.getD R.d) (t[k + 1]?.getD R.d) x).lo ∧ (valAt (t[k]?.getD R.d) (t[k + 1]?.getD R.d) x).lo ≤ (valAt (t[k]?.getD R.d) (t[k + 1]?.getD R.d) x).hi ∧ (valAt (t[k]?.getD R.d) (t[k + 1]?.getD R.d) x).hi ≤ 3000000000 := by
  obtain ⟨h1, h2, h3, h4, h5⟩ := seg_bd hok hs
  generalize t[k]?.getD R.d = a at *
  generalize t[k + 1]?.getD R.d = b at *
  have := ratio_btw (b.hi - a.hi) (x - a.lo) (b.lo - a.lo) 2000000000 (by omega) (by omega) (by omega)
  unfold valAt
  simp only
  omega

set_option maxRecDepth 100000 in
set_option maxHeartbeats 2000000 in
theorem at_any (lo : Nat) (A : Option Addr) (n c : Nat) (t : List R) (x : Int) (k : Nat) (w : World) (hx : Ranges w lo A t) (hn : Aside (t.length = n)) (hl : n ≤ 60) (hok : Aside (rowsOk t t.length)) (hs : Aside (Seg t x k)) :
    Calls Try.prog 116 #[.slice A n c, .int .i64 x] w fun e w' => e = .returned (.tuple #[.int .i64 (valAt (t[k]?.getD R.d) (t[k + 1]?.getD R.d) x).lo, .int .i64 (valAt (t[k]?.getD R.d) (t[k + 1]?.getD R.d) x).hi]) ∧ Below w.heap.size w w' := by
  obtain ⟨b, o, rfl, _, hlb, hc⟩ := hx (by have := hs.out.1; omega)
  obtain ⟨sb1, sb2, sb3, sb4, sb5⟩ := seg_bd hok.out hs.out
  have vb := valAt_bd hok.out hs.out
  have hcnt := cnt_is hok.out hs.out
  have hmin := cnt_min hs.out
  have hk1 := hs.out.1
  have hc0 := hc k 0 (by omega) (by omega)
  have hc1 := hc k 1 (by omega) (by omega)
  have hc2 := hc (k + 1) 0 (by omega) (by omega)
  have hc3 := hc (k + 1) 1 (by omega) (by omega)
  have HC := Lib.hid hc
  rw [hn.out] at hcnt hmin hk1
  have hle := hcnt.1
  have Hcnt := Lib.hid hcnt.2
  generalize hcf : cntF t x k = cf at hle Hcnt hmin
  have Hmin := Lib.hid hmin
  have HX := Lib.hid (show ∀ i, i < n → w.cell? ⟨b, o + i * 2, none⟩ = some (.int .i64 (t[i]?.getD R.d).lo) from fun i hi => by have := hc i 0 (by have := hn.out; omega) (by omega); simpa [R.cell] using this)
  generalize hak : t[k]?.getD R.d = a at *
  generalize hbk : t[k + 1]?.getD R.d = bb at *
  obtain ⟨a0, a1⟩ := a
  obtain ⟨b0, b1⟩ := bb
  have hrat := ratio_exact (b1 - a1) (x - a0) (b0 - a0) 2000000000 (by simp only at *; omega) (by omega) (by simp only at *; omega) (by simp only at *; omega)
  simp only [R.cell, Nat.add_zero, if_true, Nat.one_ne_zero, if_false] at hc0 hc1 hc2 hc3
  unfold valAt at vb ⊢
  simp only at sb1 sb2 sb3 sb4 sb5 vb ⊢
  have hR := fun W => (ratio_any (b1 - a1) (x - a0) (b0 - a0) (by omega) (by omega) (by omega) W)
  rw [hrat] at hR
  simp only at hR
  generalize (b1 - a1) * (x - a0) / (b0 - a0) = lowv at *
  generalize cdiv ((b1 - a1) * (x - a0)) (b0 - a0) = highv at *
  have hw1 : IntKind.i64.wrap (a1 + lowv) = a1 + lowv := by rw [IntKind.wrap_i64]; omega
  have hw2 : IntKind.i64.wrap (a1 + highv) = a1 + highv := by rw [IntKind.wrap_i64]; omega
  have hw3 : IntKind.i64.wrap ((n : Int) - 1) = (n : Int) - 1 := by rw [IntKind.wrap_i64]; omega
  have hwk : IntKind.i64.wrap (k : Int) = (k : Int) := by rw [IntKind.wrap_i64]; omega
  have eg : Enters Try.prog 146 := enters_of Try.func146 (by kernel_rfl) rfl
  have HEG := Lib.hid eg
  have hnn : n ≤ maxLen := by unfold maxLen; omega
  clear hc hcnt hmin hcf hrat hx eg hak hbk
  go_enter Try.func116, Try.ntmps116
  go_wp2_with fail
  generalize hq : World.alloc (World.alloc w _) _ = wx
  have hBx : Below w.heap.size w wx := by rw [← hq]; exact (by (try show Below _ _ _); repeat (first | (with_reducible refine Below.setCell ?_ (by first | omega | (simp <;> omega)) _) | (with_reducible refine Below.alloc ?_ (by first | omega | (simp <;> omega)) _) | (with_reducible refine Below.drew ?_) | (with_reducible exact Below.refl _ _) | (with_reducible exact Below.refl _ _) | (with_reducible refine below_call ?_ (by assumption) (by first | omega | (simp <;> omega))) | (with_reducible refine below_call ?_ (Drew.below (by assumption) _) (by first | omega | (simp <;> omega)))))
  have t0 : wx.cell? ⟨w.heap.size, 0, none⟩ = some (.slice (some ⟨b, o, none⟩) n c) := by rw [← hq]; simp [go_sem]
  have t1 : wx.cell? ⟨w.heap.size + 1, 0, none⟩ = some (.int .i64 x) := by rw [← hq]; simp [go_sem]
  have hzx : wx.heap.size = w.heap.size + 1 + 1 := by rw [← hq]; simp
  have z0 : w.heap.size < wx.heap.size := by omega
  have z1 : w.heap.size + 1 < wx.heap.size := by omega
  clear hq hzx
  have hS : SrchB Try.prog 146 #[.pointer (some ⟨w.heap.size, 0, none⟩), .pointer (some ⟨w.heap.size + 1, 0, none⟩)] n cf wx := by
    intro i W hi hW
    have hh := at1_any b o n c x w.heap.size (w.heap.size + 1) i (t[i]?.getD R.d).lo W ((hW.cell (p := ⟨w.heap.size, 0, none⟩) z0).trans t0) ((hW.cell (p := ⟨w.heap.size + 1, 0, none⟩) z1).trans t1) hi hnn
      ((hW.cell (p := ⟨b, o + i * 2, none⟩) (Nat.lt_of_lt_of_le hlb hBx.size)).trans ((hBx.cell (p := ⟨b, o + i * 2, none⟩) hlb).trans (HX.out i hi)))
    have e : decide (x < (t[i]?.getD R.d).lo) = decide (cf ≤ i) := decide_eq_decide.2 (Hcnt.out i hi).symm
    rw [e] at hh
    exact hh
  have hSr := fun W (h : Below wx.heap.size wx W) => search_any 146 #[.pointer (some ⟨w.heap.size, 0, none⟩), .pointer (some ⟨w.heap.size + 1, 0, none⟩)] n cf W HEG.out hle (by omega) (fun i W' hi hW' => hS i W' hi (h.trans (hW'.mono h.size)))
  have hbw : b < wx.heap.size := by have := hBx.size; omega
  clear hS
  go_upto_region 1 with (fail)
  go_cut [6] (fun s6 wy => s6 = .int .i64 ((k : Int) + 1) ∧ Aside (Below wx.heap.size wx wy))
  case first =>
    go_region_held3 (fun w' => w'.cell? ⟨w.heap.size, 0, none⟩ = some (.slice (some ⟨b, o, none⟩) n c))
      (first | (simp [go_sem, kt, t0]; done) | (simp [go_sem, t0]; done) | go_keep)
      ((go_at_call 145; refine (hSr _ (by first | exact Below.refl _ _ | exact (Below.refl _ _).drew | exact Drew.below ⟨1, rfl⟩ _)).mono ?_; rintro e w3 ⟨rfl, hb3⟩; have kt := fun o => hb3.cell (p := ⟨w.heap.size, o, none⟩) (by show w.heap.size < _; first | omega | (simp; omega)); have hS3 : Below wx.heap.size wx w3 := below_call (by first | exact Below.refl _ _ | exact Below.drew (Below.refl _ _)) hb3 (by first | omega | (simp <;> omega))))
    all_goals
      go_wp2_with fail
      go_meet
      exact ⟨by rw [Hmin.out], hS3⟩
  case rest =>
    obtain ⟨rfl, I2⟩ := hcut
    obtain ⟨wy, hwy, I3⟩ : ∃ wy, wy = _ ∧ Below wx.heap.size wx wy := ⟨_, rfl, I2.out⟩
    subst hwy
    clear I2
    have hBy : Below w.heap.size w wy := hBx.trans (I3.mono (by omega))
    have y0 := (I3.cell (p := ⟨w.heap.size, 0, none⟩) z0).trans t0
    have y1 := (I3.cell (p := ⟨w.heap.size + 1, 0, none⟩) z1).trans t1
    have c0 := (hBy.cell (p := ⟨b, o + k * 2, none⟩) hlb).trans hc0
    have c1 := (hBy.cell (p := ⟨b, o + k * 2 + 1, none⟩) hlb).trans hc1
    have c2 := (hBy.cell (p := ⟨b, o + (k + 1) * 2, none⟩) hlb).trans hc2
    have c3 := (hBy.cell (p := ⟨b, o + (k + 1) * 2 + 1, none⟩) hlb).trans hc3
    have zy0 : w.heap.size < wy.heap.size := by have := I3.size; omega
    have zy1 : w.heap.size + 1 < wy.heap.size := by have := I3.size; omega
    have zyb : b < wy.heap.size := by have := I3.size; omega
    have hkn : (k : Int) + 1 < (n : Int) := by omega
    have hkn0 : (k : Int) < (n : Int) := by omega
    have hk0 : (0 : Int) ≤ (k : Int) := by omega
    have hk00 : (0 : Int) ≤ (k : Int) + 1 := by omega
    have hkN : k + 1 < n := hk1
    have hkN0 : k < n := by omega
    clear t0 t1 hSr I3 hc0 hc1 hc2 hc3 HX HEG Hcnt HC
    go_upto_region 2 with (fail)
    go_cut [7, 8] (fun s7 s8 wz => ∃ p7 p8 : Nat, s7 = .pointer (some ⟨p7, 0, none⟩) ∧ s8 = .pointer (some ⟨p8, 0, none⟩) ∧ Aside (Below wy.heap.size wy wz ∧ p7 < wz.heap.size ∧ p8 < wz.heap.size ∧ wz.cell? ⟨p7, 0, none⟩ = some (.int .i64 a0) ∧ wz.cell? ⟨p7, 1, none⟩ = some (.int .i64 a1) ∧ wz.cell? ⟨p8, 0, none⟩ = some (.int .i64 b0) ∧ wz.cell? ⟨p8, 1, none⟩ = some (.int .i64 b1)))
    case first =>
      go_region_held3 (fun w' => w'.cell? ⟨w.heap.size, 0, none⟩ = some (.slice (some ⟨b, o, none⟩) n c) ∧ w'.cell? ⟨b, o + k * 2, none⟩ = some (.int .i64 a0) ∧ w'.cell? ⟨b, o + k * 2 + 1, none⟩ = some (.int .i64 a1) ∧ w'.cell? ⟨b, o + (k + 1) * 2, none⟩ = some (.int .i64 b0) ∧ w'.cell? ⟨b, o + (k + 1) * 2 + 1, none⟩ = some (.int .i64 b1)) (go_keep) (fail)
      all_goals
        go_wp2_with fail
        go_meet
        exact ⟨_, _, rfl, rfl, (by (try show Below _ _ _); repeat (first | (with_reducible refine Below.setCell ?_ (by first | omega | (simp <;> omega)) _) | (with_reducible refine Below.alloc ?_ (by first | omega | (simp <;> omega)) _) | (with_reducible refine Below.drew ?_) | (with_reducible exact Below.refl _ _) | (with_reducible refine below_call ?_ (by assumption) (by first | omega | (simp <;> omega))) | (with_reducible refine below_call ?_ (Drew.below (by assumption) _) (by first | omega | (simp <;> omega))))), (by first | (simp; done) | (simp; omega)), (by first | (simp; done) | (simp; omega)), (by simp [go_sem]), (by simp [go_sem]), (by simp [go_sem]), (by simp [go_sem])⟩
    case rest =>
      obtain ⟨p7, p8, rfl, rfl, I4⟩ := hcut
      obtain ⟨wz, hwz, I5⟩ : ∃ wz, wz = _ ∧ (Below wy.heap.size wy wz ∧ p7 < wz.heap.size ∧ p8 < wz.heap.size ∧ wz.cell? ⟨p7, 0, none⟩ = some (.int .i64 a0) ∧ wz.cell? ⟨p7, 1, none⟩ = some (.int .i64 a1) ∧ wz.cell? ⟨p8, 0, none⟩ = some (.int .i64 b0) ∧ wz.cell? ⟨p8, 1, none⟩ = some (.int .i64 b1)) := ⟨_, rfl, I4.out⟩
      subst hwz
      clear I4
      obtain ⟨hBz, q7, q8, d0, d1, d2, d3⟩ := I5
      have d4 := (hBz.cell (p := ⟨w.heap.size + 1, 0, none⟩) zy1).trans y1
      have hBw : Below w.heap.size w wz := hBy.trans (hBz.mono (by omega))
      have zz1 : w.heap.size + 1 < wz.heap.size := by have := hBz.size; omega
      clear y0 y1 c0 c1 c2 c3 hBz
      go_wp2_with fail
      refine (hR _).mono ?_
      rintro e w5 ⟨rfl, hd5⟩
      have hB5 := drew_all hd5
      have e1 := (hB5.cell (p := ⟨p7, 1, none⟩) q7).trans d1
      have hBw5 : Below w.heap.size w w5 := (by (try show Below _ _ _); repeat (first | (with_reducible refine Below.setCell ?_ (by first | omega | (simp <;> omega)) _) | (with_reducible refine Below.alloc ?_ (by first | omega | (simp <;> omega)) _) | (with_reducible refine Below.drew ?_) | (with_reducible exact Below.refl _ _) | (with_reducible exact hBw) | (with_reducible refine below_call ?_ hB5 (by first | omega | (simp <;> omega))) | (with_reducible refine below_call ?_ (Drew.below hB5 _) (by first | omega | (simp <;> omega)))))
      clear d0 d1 d2 d3 d4 hd5
      go_wp2_with fail
      go_quiet (fail)
      go_wp2
      go_ret2
      exact ⟨rfl, below_drewN' hBw5 _⟩

end Go.Proofs.Ytfohdafijfjefaa
