/- Contract: reference Values. -/
import Derived.Test.YtfohdafijfjefaaRefVal
set_option linter.unusedSimpArgs false
set_option linter.unusedVariables false
namespace Go.Proofs.Ytfohdafijfjefaa
open Go.RowKit Go.Shelf
attribute [local go_sem ↓] Go.wp_at_zero Go.wp_at_succ

set_option maxRecDepth 100000 in
set_option maxHeartbeats 4000000 in
theorem refValues_any (lo : Nat) (A : Option Addr) (n c : Nat) (t : List R) (a0 a1 : Int) (w : World) (hx : Ranges w lo A t) (hn : Aside (t.length = n)) (hok : tableS t = true) (hs : btw (firstX t) (lastX t) [a0, a1] = true) :
    Calls Try.prog 70 #[.slice A n c, .agg #[.int .i64 a0, .int .i64 a1]] w fun e w' => e = .returned (.agg #[.int .i64 (valsF t ⟨a0, a1⟩ t.length).lo, .int .i64 (valsF t ⟨a0, a1⟩ t.length).hi]) ∧ Below w.heap.size w w' := by
  have hv0 : valueIn t a0 = true := by unfold valueIn; rw [btw1]; have := (rowsOk_at.btw2' _ _ _ _).1 hs; omega
  have hv1 : valueIn t a1 = true := by unfold valueIn; rw [btw1]; have := (rowsOk_at.btw2' _ _ _ _).1 hs; omega
  have hV := fun W (h : Below w.heap.size w W) => refValue_any lo A n c t a0 W (hx.below h (Nat.le_refl _)) hn hok hv0
  have hU := fun W (h : Below w.heap.size w W) => refValue_any lo A n c t a1 W (hx.below h (Nat.le_refl _)) hn hok hv1
  have hn60 : n ≤ 60 := by have := ((tableS_iff t).1 hok).2.2; have := hn.out; omega
  have hF0 : valsF t ⟨a0, a1⟩ 0 = ⟨min (valS t a0).lo (valS t a1).lo, max (valS t a0).hi (valS t a1).hi⟩ := rfl
  have HX := Lib.hid hx
  generalize hres : valsF t ⟨a0, a1⟩ t.length = res
  obtain ⟨res0, res1⟩ := res
  have Hres := Lib.hid hres
  generalize valS t a0 = v at hV hF0
  generalize valS t a1 = u at hU hF0
  obtain ⟨v0, v1⟩ := v
  obtain ⟨u0, u1⟩ := u
  simp only at hV hU hF0
  have HF0 := Lib.hid hF0
  clear hx hok hs hv0 hv1 hres hF0
  go_enter Try.func70, Try.ntmps70
  go_wp2_with fail
  generalize hq : World.alloc (World.alloc w _) _ = wx
  have hBx : Below w.heap.size w wx := by rw [← hq]; exact (by (try show Below _ _ _); repeat (first | (with_reducible refine Below.setCell ?_ (by first | omega | (simp <;> omega)) _) | (with_reducible refine Below.alloc ?_ (by first | omega | (simp <;> omega)) _) | (with_reducible refine Below.drew ?_) | (with_reducible exact Below.refl _ _) | (with_reducible exact Below.refl _ _) | (with_reducible refine below_call ?_ (by assumption) (by first | omega | (simp <;> omega))) | (with_reducible refine below_call ?_ (Drew.below (by assumption) _) (by first | omega | (simp <;> omega)))))
  have p0 : wx.cell? ⟨w.heap.size, 0, none⟩ = some (.int .i64 a0) := by rw [← hq]; simp [go_sem]
  have p1 : wx.cell? ⟨w.heap.size, 1, none⟩ = some (.int .i64 a1) := by rw [← hq]; simp [go_sem]
  have r0 : wx.cell? ⟨w.heap.size + 1, 0, none⟩ = some (.int .i64 0) := by rw [← hq]; simp [go_sem]
  have r1 : wx.cell? ⟨w.heap.size + 1, 1, none⟩ = some (.int .i64 0) := by rw [← hq]; simp [go_sem]
  have rf : wx.frozen? ⟨w.heap.size + 1, 0, none⟩ = false := by rw [← hq]; simp [go_sem]
  have rg : wx.frozen? ⟨w.heap.size + 1, 1, none⟩ = false := by rw [← hq]; simp [go_sem]
  have hzx : wx.heap.size = w.heap.size + 1 + 1 := by rw [← hq]; simp
  have q0 : w.heap.size < wx.heap.size := by omega
  have q1 : w.heap.size + 1 < wx.heap.size := by omega
  clear hq hzx
  go_upto_region 1 with (fail)
  go_cut [5, 6] (fun s5 s6 wz => ∃ p5 p6 : Nat, s5 = .pointer (some ⟨p5, 0, none⟩) ∧ s6 = .pointer (some ⟨p6, 0, none⟩) ∧ Aside (Below wx.heap.size wx wz ∧ wz.cell? ⟨p5, 0, none⟩ = some (.int .i64 v0) ∧ wz.cell? ⟨p5, 1, none⟩ = some (.int .i64 v1) ∧ wz.cell? ⟨p6, 0, none⟩ = some (.int .i64 u0) ∧ wz.cell? ⟨p6, 1, none⟩ = some (.int .i64 u1)))
  case first =>
    go_region_with (first
        | (go_at_call_of 68 (Value.int IntKind.i64 a0); refine (hV _ (by repeat (first | exact hBx | exact Below.drew hBx | exact Below.refl _ _ | (refine Below.alloc ?_ (by first | omega | (simp <;> omega)) _) | (refine Below.drew ?_)))).mono ?_; rintro e w3 ⟨rfl, hb3⟩; obtain ⟨hc3, hf3⟩ := bcell hb3; have hT3 : Below wx.heap.size wx w3 := below_call (by repeat (first | exact (Below.refl _ _) | exact Below.drew (Below.refl _ _) | exact Below.refl _ _ | (refine Below.alloc ?_ (by first | omega | (simp <;> omega)) _) | (refine Below.drew ?_))) hb3 (by first | omega | (simp <;> omega)); have q3 : w.heap.size < w3.heap.size := (by have hzz := hT3.size; omega); have q33 := hT3.size; have k30 : w3.cell? ⟨w.heap.size, 0, none⟩ = some (.int .i64 a0) := (hT3.cell (p := ⟨w.heap.size, 0, none⟩) q0).trans p0; have k31 : w3.cell? ⟨w.heap.size, 1, none⟩ = some (.int .i64 a1) := (hT3.cell (p := ⟨w.heap.size, 1, none⟩) q0).trans p1; have hz3 := hb3.size; (try simp only [World.size_alloc, World.size_drew] at hz3); (try have m1 := Nat.lt_of_succ_le hz3); (try have m2 := Nat.lt_of_succ_lt m1); (try have x1 := Nat.ne_of_lt m1); (try have y1 := Nat.ne_of_gt m1); (try have x2 := Nat.ne_of_lt m2); (try have y2 := Nat.ne_of_gt m2); clear hb3)
        | (go_at_call_of 68 (Value.int IntKind.i64 a1); refine (hU _ (Below.trans hBx (Below.mono (B := wx.heap.size) (by repeat (first | exact hT3 | exact Below.drew hT3 | exact Below.refl _ _ | (refine Below.alloc ?_ (by first | omega | (simp <;> omega)) _) | (refine Below.drew ?_))) (by omega)))).mono ?_; rintro e w4 ⟨rfl, hb4⟩; obtain ⟨hc4, hf4⟩ := bcell hb4; have hT4 : Below wx.heap.size wx w4 := below_call (by repeat (first | exact hT3 | exact Below.drew hT3 | exact Below.refl _ _ | (refine Below.alloc ?_ (by first | omega | (simp <;> omega)) _) | (refine Below.drew ?_))) hb4 (by first | omega | (simp <;> omega)); have q4 : w.heap.size < w4.heap.size := (by have hzz := hT4.size; omega); have q44 := hT4.size; have hz4 := hb4.size; (try simp only [World.size_alloc, World.size_drew] at hz4); have q43 : w3.heap.size ≤ w4.heap.size := (by omega); (try have m3 := Nat.lt_of_succ_le hz4); (try have m4 := Nat.lt_of_succ_lt m3); (try have m5 := Nat.lt_of_lt_of_le m1 q43); (try have m6 := Nat.lt_of_lt_of_le m2 q43); (try have x3 := Nat.ne_of_lt m3); (try have y3 := Nat.ne_of_gt m3); (try have x4 := Nat.ne_of_lt m4); (try have y4 := Nat.ne_of_gt m4); (try have x5 := Nat.ne_of_lt m5); (try have y5 := Nat.ne_of_gt m5); (try have x6 := Nat.ne_of_lt m6); (try have y6 := Nat.ne_of_gt m6); clear hb4))
    all_goals
      go_wp2_with fail
      go_meet
      exact ⟨_, _, rfl, rfl, (by (try show Below _ _ _); repeat (first | (with_reducible refine Below.setCell ?_ (by first | omega | (simp <;> omega)) _) | (with_reducible refine Below.alloc ?_ (by first | omega | (simp <;> omega)) _) | (with_reducible refine Below.drew ?_) | (with_reducible exact Below.refl _ _) | (with_reducible exact hT4) | (with_reducible refine below_call ?_ hT4 (by first | omega | (simp <;> omega))) | (with_reducible refine below_call ?_ (Drew.below hT4 _) (by first | omega | (simp <;> omega))))), (by first | (simp [go_sem]; done) | (simp [go_sem, cell_set, *]; done)), (by first | (simp [go_sem]; done) | (simp [go_sem, cell_set, *]; done)), (by first | (simp [go_sem]; done) | (simp [go_sem, cell_set, *]; done)), (by first | (simp [go_sem]; done) | (simp [go_sem, cell_set, *]; done))⟩
  case rest =>
    obtain ⟨p5, p6, rfl, rfl, I4⟩ := hcut
    obtain ⟨wz, hwz, I5⟩ : ∃ wz, wz = _ ∧ (Below wx.heap.size wx wz ∧ wz.cell? ⟨p5, 0, none⟩ = some (.int .i64 v0) ∧ wz.cell? ⟨p5, 1, none⟩ = some (.int .i64 v1) ∧ wz.cell? ⟨p6, 0, none⟩ = some (.int .i64 u0) ∧ wz.cell? ⟨p6, 1, none⟩ = some (.int .i64 u1)) := ⟨_, rfl, I4.out⟩
    subst hwz
    clear I4 hV hU
    obtain ⟨hBz, d0, d1, d2, d3⟩ := I5
    have HBz : Below w.heap.size w wz := hBx.trans (hBz.mono (by omega))
    have e0 := (hBz.cell (p := ⟨w.heap.size, 0, none⟩) q0).trans p0
    have e1 := (hBz.cell (p := ⟨w.heap.size, 1, none⟩) q0).trans p1
    have s0 := (hBz.cell (p := ⟨w.heap.size + 1, 0, none⟩) q1).trans r0
    have s1 := (hBz.cell (p := ⟨w.heap.size + 1, 1, none⟩) q1).trans r1
    have sf := (hBz.frozen (p := ⟨w.heap.size + 1, 0, none⟩) q1).trans rf
    have sg := (hBz.frozen (p := ⟨w.heap.size + 1, 1, none⟩) q1).trans rg
    have hz6 : w.heap.size + 1 < wz.heap.size := by have := hBz.size; omega
    have hz60 : w.heap.size < wz.heap.size := by omega
    clear p0 p1 r0 r1 rf rg hBz
    go_wp2
    go_loopg [8] (n) (fun gg i wr => ∃ k : Nat, k ≤ n ∧ n - k ≤ gg ∧ i = .int .i64 k ∧ Aside (VlJ w a0 a1 wz.heap.size (valsF t ⟨a0, a1⟩ k) wr))
    case atStart =>
      refine ⟨0, Nat.zero_le _, Nat.le_refl _, rfl, ?_⟩
      rw [HF0.out]
      exact { below := (by (try show Below _ _ _); repeat (first | (with_reducible refine Below.setCell ?_ (by first | omega | (simp <;> omega)) _) | (with_reducible refine Below.alloc ?_ (by first | omega | (simp <;> omega)) _) | (with_reducible refine Below.drew ?_) | (with_reducible exact Below.refl _ _) | (with_reducible exact HBz) | (with_reducible refine below_call ?_ (by assumption) (by first | omega | (simp <;> omega))) | (with_reducible refine below_call ?_ (Drew.below (by assumption) _) (by first | omega | (simp <;> omega))))), far := hz6, size := (by simp), p0 := (by simp [go_sem, e0, hz60]), p1 := (by simp [go_sem, e1, hz60]), r0 := (by simp [go_sem, s0, hz6]), r1 := (by simp [go_sem, s1, hz6]), rf := (by simp [go_sem, sf, hz6]), rg := (by simp [go_sem, sg, hz6]), o0 := (by simp [go_sem]), o1 := (by simp [go_sem]), of := (by simp [go_sem]), og := (by simp [go_sem]) }
    case round =>
      obtain ⟨k, hk, hg, rfl, I⟩ := hrel
      by_cases hlt : k < n
      · obtain ⟨b, o, rfl, _, hlb, hc⟩ := HX.out (by have := hn.out; omega)
        have x0 := (I.out.below.cell (p := ⟨b, o + k * 2 + 0, none⟩) hlb).trans (hc k 0 (by have := hn.out; omega) (by omega))
        have x1 := (I.out.below.cell (p := ⟨b, o + k * 2 + 1, none⟩) hlb).trans (hc k 1 (by have := hn.out; omega) (by omega))
        have hsn := valsF_succ t ⟨a0, a1⟩ k (by have := hn.out; omega)
        have II := Lib.hid I.out
        have Ip0 := I.out.p0
        have Ip1 := I.out.p1
        have hfar := I.out.far
        have hsz := I.out.size
        have hbw : b < wr.heap.size := by have := I.out.below.size; omega
        clear hc e0 e1 s0 s1 sf sg d0 d1 d2 d3
        generalize t[k]?.getD R.d = r at x0 x1 hsn
        obtain ⟨r0, r1⟩ := r
        simp only [R.cell, Nat.add_zero, if_true, Nat.one_ne_zero, if_false] at x0 x1
        generalize valsF t ⟨a0, a1⟩ k = out at hsn II I
        obtain ⟨out0, out1⟩ := out
        unfold valsStep at hsn
        simp only at hsn
        rw [show btw a0 a1 [r0] = inS r0 a0 a1 from by unfold btw inS; simp] at hsn
        have Hsn := Lib.hid hsn
        clear hsn I
        have hltz : (k : Int) < (n : Int) := by omega
        have hk0 : (0 : Int) ≤ (k : Int) := by omega
        have hIn := fun W => in_any r0 a0 a1 W
        cases hb : inS r0 a0 a1 with
        | false =>
          rw [hb] at hIn
          go_wp2_with fail
          go_quiet ((go_at_call 45; exact quiet_same (hIn _)))
          clear hIn
          generalize hq : World.drewN wr _ = wd
          have J := Lib.hid (II.out.later (drawnB hq))
          have Hb := Lib.hid hb
          clear hq
          go_wp2
          go_roundg (n - (k + 1))
          case measure => omega
          case rel =>
            refine ⟨k + 1, by omega, by omega, by go_num, ?_⟩
            rw [Hsn.out, Hb.out]
            exact J.out
        | true =>
          rw [hb] at hIn
          go_wp2_with fail
          go_quiet ((go_at_call 45; exact quiet_same (hIn _)))
          clear hIn
          generalize hq : World.drewN wr _ = wd
          have hD := drawnB hq
          have J := II.out.later hD
          have c1 := (hD.cell (p := ⟨b, o + k * 2 + 1, none⟩) hbw).trans x1
          have hbwd : b < wd.heap.size := by have := hD.size; omega
          have Hb := Lib.hid hb
          clear hq hD x0 x1 Ip0 Ip1
          obtain ⟨j1, j2, j3, p0, p1, z0, z1, zf, zg, o0, o1, of, og⟩ := J
          simp only at o0 o1
          go_wp2_with fail
          go_still_tail 17, (by kernel_rfl)
          change wpList _ _ _ _ _ wd.drew
          have hE : Below wd.heap.size wd wd.drew := Drew.below ⟨1, rfl⟩ _
          have hn0 : w.heap.size < wd.heap.size := by omega
          have hn1' : w.heap.size + 1 < wd.heap.size := by omega
          generalize wd.drew = we at hE ⊢
          have hze := hE.size
          have P0 := (hE.cell (p := ⟨w.heap.size, 0, none⟩) hn0).trans p0
          have P1 := (hE.cell (p := ⟨w.heap.size, 1, none⟩) hn0).trans p1
          have Z0 := (hE.cell (p := ⟨w.heap.size + 1, 0, none⟩) hn1').trans z0
          have Z1 := (hE.cell (p := ⟨w.heap.size + 1, 1, none⟩) hn1').trans z1
          have ZF := (hE.frozen (p := ⟨w.heap.size + 1, 0, none⟩) hn1').trans zf
          have ZG := (hE.frozen (p := ⟨w.heap.size + 1, 1, none⟩) hn1').trans zg
          have O0 := (hE.cell (p := ⟨wz.heap.size, 0, none⟩) j3).trans o0
          have O1 := (hE.cell (p := ⟨wz.heap.size, 1, none⟩) j3).trans o1
          have OF := (hE.frozen (p := ⟨wz.heap.size, 0, none⟩) j3).trans of
          have OG := (hE.frozen (p := ⟨wz.heap.size, 1, none⟩) j3).trans og
          have HBe : Below w.heap.size w we := j1.trans (hE.mono (by omega))
          have hze3 : wz.heap.size < we.heap.size := by omega
          have hn1 : ¬ wz.heap.size = w.heap.size := by omega
          have hn2 : ¬ wz.heap.size = w.heap.size + 1 := by omega
          have hn3 : w.heap.size < we.heap.size := by omega
          have hn4 : w.heap.size + 1 < we.heap.size := by omega
          clear p0 p1 z0 z1 zf zg o0 o1 of og hE j1 c1
          go_wp2
          go_roundg (n - (k + 1))
          case measure => omega
          case rel =>
            refine ⟨k + 1, by omega, by omega, by go_num, ?_⟩
            rw [Hsn.out, Hb.out, if_pos rfl]
            exact { below := (by (try show Below _ _ _); repeat (first | (with_reducible refine Below.setCell ?_ (by first | omega | (simp <;> omega)) _) | (with_reducible refine Below.alloc ?_ (by first | omega | (simp <;> omega)) _) | (with_reducible refine Below.drew ?_) | (with_reducible exact Below.refl _ _) | (with_reducible exact HBe) | (with_reducible refine below_call ?_ (by assumption) (by first | omega | (simp <;> omega))) | (with_reducible refine below_call ?_ (Drew.below (by assumption) _) (by first | omega | (simp <;> omega))))), far := j2, size := (by first | omega | (simp; omega)), p0 := (by simp [go_sem, cell_set, P0, hn1]), p1 := (by simp [go_sem, cell_set, P1, hn1]), r0 := (by simp [go_sem, cell_set, Z0, hn2]), r1 := (by simp [go_sem, cell_set, Z1, hn2]), rf := (by simp [go_sem, ZF]), rg := (by simp [go_sem, ZG]), o0 := (by simp [go_sem, cell_set, O0]), o1 := (by simp [go_sem, cell_set, O1]), of := (by simp [go_sem, OF]), og := (by simp [go_sem, OG]) }
      · have hltz : ¬ (k : Int) < (n : Int) := by omega
        have hke : k = t.length := by have := hn.out; omega
        have hr := Hres.out
        rw [← hke] at hr
        rw [hr] at I
        obtain ⟨j1, j2, j3, g0, g1, z0, z1, zf, zg, o0, o1, of, og⟩ := I.out
        simp only at o0 o1
        have hn3 : w.heap.size < wr.heap.size := by omega
        have hn4 : w.heap.size + 1 < wr.heap.size := by omega
        clear e0 e1 s0 s1 sf sg d0 d1 d2 d3 hr hke I
        go_wp2
        refine bodyPost_ret (v := .agg #[.int .i64 res0, .int .i64 res1]) (by simp [results, Try.results70, go_sem, cell_set, z0, z1]) rfl ⟨rfl, (by (try show Below _ _ _); repeat (first | (with_reducible refine Below.setCell ?_ (by first | omega | (simp <;> omega)) _) | (with_reducible refine Below.alloc ?_ (by first | omega | (simp <;> omega)) _) | (with_reducible refine Below.drew ?_) | (with_reducible exact Below.refl _ _) | (with_reducible exact j1) | (with_reducible refine below_call ?_ (by assumption) (by first | omega | (simp <;> omega))) | (with_reducible refine below_call ?_ (Drew.below (by assumption) _) (by first | omega | (simp <;> omega)))))⟩

end Go.Proofs.Ytfohdafijfjefaa
