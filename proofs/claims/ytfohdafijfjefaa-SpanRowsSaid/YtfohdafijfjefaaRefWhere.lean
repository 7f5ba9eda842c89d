/- Contract: reference Where. -/
import Derived.Test.YtfohdafijfjefaaWhereLaw
import Derived.Test.YtfohdafijfjefaaRefWide
set_option linter.unusedSimpArgs false
set_option linter.unusedVariables false
namespace Go.Proofs.Ytfohdafijfjefaa
open Go.RowKit Go.Shelf
attribute [local go_sem ↓] Go.wp_at_zero Go.wp_at_succ

theorem wh_step (t : List R) (y : R) (k : Nat) (h : (t[k]?.getD R.d).lo < (t[k + 1]?.getD R.d).lo) :
    whF t y (k + 1) = if sF (t[k]?.getD R.d) (t[k + 1]?.getD R.d) y ≤ sL (t[k]?.getD R.d) (t[k + 1]?.getD R.d) y - 1 then addR (whF t y k) ⟨sF (t[k]?.getD R.d) (t[k + 1]?.getD R.d) y, sL (t[k]?.getD R.d) (t[k + 1]?.getD R.d) y - 1⟩ else whF t y k := by
  rw [whF_succ]
  unfold whStep
  obtain ⟨h1, h2⟩ := s_str (t[k]?.getD R.d) (t[k + 1]?.getD R.d) y h
  rw [h1]
  by_cases hc : sF (t[k]?.getD R.d) (t[k + 1]?.getD R.d) y ≤ sL (t[k]?.getD R.d) (t[k + 1]?.getD R.d) y - 1
  · rw [if_pos (decide_eq_true hc), if_pos hc, h2 hc]
  · rw [if_neg (by simpa using hc), if_neg hc]

theorem wh_bd (t : List R) (y : R) (hok : rowsOk t t.length) (k : Nat) (hk : k + 1 ≤ t.length) : ∀ m ∈ whF t y k, -2000000000 ≤ m.hi ∧ m.hi ≤ 2000000000 := by
  induction k with
  | zero => intro m hm; simp [whF] at hm
  | succ k ih =>
    have i := ih (by omega)
    obtain ⟨ta, -⟩ := rowsOk_at hok k (by omega)
    obtain ⟨tb, -⟩ := rowsOk_at hok (k + 1) (by omega)
    have hlt := rows_mono hok k (k + 1) (by omega) (by omega)
    have hb := sF_btw (t[k]?.getD R.d) (t[k + 1]?.getD R.d) y hlt
    rw [wh_step t y k hlt]
    generalize sF (t[k]?.getD R.d) (t[k + 1]?.getD R.d) y = f at *
    generalize sL (t[k]?.getD R.d) (t[k + 1]?.getD R.d) y = l at *
    generalize whF t y k = acc at *
    split
    · rcases List.eq_nil_or_concat acc with rfl | ⟨ys, z, rfl⟩
      · intro m hm; rw [addR_nil] at hm; simp at hm; subst hm; simp only; omega
      · rw [List.concat_eq_append] at *
        have hz := i z (by simp)
        intro m hm
        rw [addR_snoc] at hm
        split at hm
        · rw [List.mem_append] at hm
          rcases hm with hm | hm
          · exact i m (by simp [hm])
          · simp at hm; subst hm; simp only; omega
        · rw [List.mem_append] at hm
          rcases hm with hm | hm
          · exact i m hm
          · simp at hm; subst hm; simp only; omega
    · exact i

theorem wh_len (t : List R) (y : R) (k : Nat) : (whF t y k).length ≤ k := by
  induction k with
  | zero => simp [whF]
  | succ k ih =>
    rw [whF_succ]
    unfold whStep
    split
    · have := addR_len (whF t y k) (stretchS (t[k]?.getD R.d) (t[k + 1]?.getD R.d) y).1; omega
    · omega

/-- every place of a stretch lies in the table -/
theorem seg_in {t : List R} (hok : rowsOk t t.length) {k : Nat} (hk : k + 1 < t.length) {m : Int} (h1 : (t[k]?.getD R.d).lo ≤ m) (h2 : m ≤ (t[k + 1]?.getD R.d).lo) : valueIn t m = true := by
  have hm := rows_mono hok
  unfold valueIn
  rw [btw1]
  unfold firstX lastX
  constructor
  · rcases Nat.eq_zero_or_pos k with rfl | h
    · exact h1
    · have := hm 0 k h (by omega); omega
  · rcases Nat.lt_or_ge (k + 1) (t.length - 1) with h | h
    · have := hm (k + 1) (t.length - 1) h (by omega); omega
    · rw [show t.length - 1 = k + 1 by omega]; exact h2

theorem ua1 {w W : World} {o : Obj} (h : Below w.heap.size w W) : Below w.heap.size w (W.alloc o) := h.alloc h.size _
theorem ub0 {w W W' : World} (h : Below w.heap.size w W) (hb : Below W.heap.size W W') : Below w.heap.size w W' := below_call h hb h.size
theorem ub1 {w W W' : World} {o : Obj} (h : Below w.heap.size w W) (hb : Below (W.alloc o).heap.size (W.alloc o) W') : Below w.heap.size w W' := ub0 (ua1 h) hb
theorem ub2 {w W W' : World} {o o' : Obj} (h : Below w.heap.size w W) (hb : Below ((W.alloc o).alloc o').heap.size ((W.alloc o).alloc o') W') : Below w.heap.size w W' := ub0 (ua1 (ua1 h)) hb
theorem ub3 {w W W' : World} {o o' o'' : Obj} (h : Below w.heap.size w W) (hb : Below (((W.alloc o).alloc o').alloc o'').heap.size (((W.alloc o).alloc o').alloc o'') W') : Below w.heap.size w W' := ub0 (ua1 (ua1 (ua1 h))) hb

set_option maxRecDepth 100000 in
set_option maxHeartbeats 4000000 in
theorem refWhere_any (lo : Nat) (A : Option Addr) (n c : Nat) (t : List R) (y0 y1 : Int) (w : World) (hx : Ranges w lo A t) (hn : Aside (t.length = n)) (hok : tableS t = true) (hy : okR ⟨y0, y1⟩ = true) :
    Calls Try.prog 71 #[.slice A n c, .agg #[.int .i64 y0, .int .i64 y1]] w (OwnPost' w (whF t (clampY ⟨y0, y1⟩) (t.length - 1))) := by
  obtain ⟨hrows, hn2, hn60⟩ := (tableS_iff t).1 hok
  have hS : ∀ (k : Nat) (hk : k + 1 < t.length) (W : World) (h : Below w.heap.size w W), (∀ bh : Bool, Calls Try.prog 120 #[.slice A n c, .int .i64 (t[k]?.getD R.d).lo, .int .i64 (t[k + 1]?.getD R.d).lo, .agg #[.int .i64 y0, .int .i64 y1], .bool (decide ((t[k]?.getD R.d).hi ≤ (t[k + 1]?.getD R.d).hi)), .bool bh] W fun e w' => e = .returned (.int .i64 (match bh with | false => sF (t[k]?.getD R.d) (t[k + 1]?.getD R.d) (clampY ⟨y0, y1⟩) | true => sL (t[k]?.getD R.d) (t[k + 1]?.getD R.d) (clampY ⟨y0, y1⟩))) ∧ Below W.heap.size W w') := by
    intro k hk W h bh
    obtain ⟨ta, ta'⟩ := rowsOk_at hrows k (by omega)
    obtain ⟨tb, tb'⟩ := rowsOk_at hrows (k + 1) (by omega)
    have hlt := rows_mono hrows k (k + 1) (by omega) (by omega)
    have hb := sF_btw (t[k]?.getD R.d) (t[k + 1]?.getD R.d) (clampY ⟨y0, y1⟩) hlt
    refine refSearch_any lo A n c t _ _ _ y0 y1 _ bh W (hx.below h (Nat.le_refl _)) hn hok (by cases bh <;> simp only <;> omega) (fun m h1 h2 => seg_in hrows hk h1 h2) (fun m h1 h2 => ?_)
    have hv := valAt_btw _ _ m hlt h1 h2 ta' tb'
    rw [valS_seg hrows hk h1 h2, ← srch_clamp _ _ _ _ hv.1 hv.2]
    have := sF_test (t[k]?.getD R.d) (t[k + 1]?.getD R.d) (clampY ⟨y0, y1⟩) m hlt h1 h2 (by omega)
    cases bh
    · exact this.1
    · exact this.2
  have HS := Lib.hid hS
  have HX := Lib.hid hx
  have HR := Lib.hid hrows
  rw [hn.out] at hn2 hn60 ⊢
  clear hS hx hrows hok hy
  generalize hY : clampY ⟨y0, y1⟩ = Y at HS ⊢
  generalize hres : whF t Y (n - 1) = res
  have Hres := Lib.hid hres
  clear hres hY
  go_enter Try.func71, Try.ntmps71
  go_upto_region 1 with (fail)
  generalize hq : World.alloc w _ = W0
  have hB0 : Below w.heap.size w W0 := by rw [← hq]; exact (by (try show Below _ _ _); repeat (first | (with_reducible refine Below.setCell ?_ (by first | omega | (simp <;> omega)) _) | (with_reducible refine Below.alloc ?_ (by first | omega | (simp <;> omega)) _) | (with_reducible refine Below.drew ?_) | (with_reducible exact Below.refl _ _) | (with_reducible exact Below.refl _ _) | (with_reducible refine below_call ?_ (by assumption) (by first | omega | (simp <;> omega))) | (with_reducible refine below_call ?_ (Drew.below (by assumption) _) (by first | omega | (simp <;> omega)))))
  have hz0 : W0.heap.size = w.heap.size + 1 := by rw [← hq]; simp
  have p0 : W0.cell? ⟨w.heap.size, 0, none⟩ = some (.int .i64 y0) := by rw [← hq]; simp [go_sem]
  have p1 : W0.cell? ⟨w.heap.size, 1, none⟩ = some (.int .i64 y1) := by rw [← hq]; simp [go_sem]
  have hw0 : w.heap.size < W0.heap.size := by omega
  clear hq
  have ob := World.ownsRow_lit (base := W0.heap.size) (e := 23) (size := 2) W0 #[] 0 (Nat.le_refl _) (by decide) rfl
  have OB := Lib.hid ob
  clear ob
  go_wp2
  obtain ⟨i5, hi5, hz5, hs5, hb5⟩ := info_parts infoRange
  go_loopg [5, 6] (n) (fun gg s5 i wr => ∃ (k g c5 m : Nat), k ≤ n - 1 ∧ n - 1 - k ≤ gg ∧ i = .int .i64 k ∧ s5 = .slice (some ⟨g, 0, none⟩) m c5 ∧ m ≤ k ∧ Aside ((whF t Y k).length = m) ∧ Aside (wr.ownsRow W0.heap.size 23 2 (.slice (some ⟨g, 0, none⟩) m c5) m ((whF t Y k).flatMap rCs)) ∧ Aside (Below W0.heap.size W0 wr))
  case atStart => exact ⟨0, W0.heap.size, 0, 0, Nat.zero_le _, by omega, rfl, by rw [hz0], Nat.le_refl _, rfl, OB.out, (by (try show Below _ _ _); repeat (first | (with_reducible refine Below.setCell ?_ (by first | omega | (simp <;> omega)) _) | (with_reducible refine Below.alloc ?_ (by first | omega | (simp <;> omega)) _) | (with_reducible refine Below.drew ?_) | (with_reducible exact Below.refl _ _) | (with_reducible refine below_call ?_ (by assumption) (by first | omega | (simp <;> omega))) | (with_reducible refine below_call ?_ (Drew.below (by assumption) _) (by first | omega | (simp <;> omega)))))⟩
  case round =>
    obtain ⟨k, g, c5, m, hk, hg, rfl, rfl, hmk, hm, hO, hB⟩ := hrel
    have hbs := hB.out.size
    by_cases hlt : k < n - 1
    · obtain ⟨bb, o, rfl, _, hlb, hc⟩ := HX.out (by have := hn.out; omega)
      have HBw : Below w.heap.size w wr := hB0.trans (hB.out.mono (by omega))
      have x0 := (HBw.cell (p := ⟨bb, o + k * 2 + 0, none⟩) hlb).trans (hc k 0 (by have := hn.out; omega) (by omega))
      have x1 := (HBw.cell (p := ⟨bb, o + k * 2 + 1, none⟩) hlb).trans (hc k 1 (by have := hn.out; omega) (by omega))
      have x2 := (HBw.cell (p := ⟨bb, o + (k + 1) * 2 + 0, none⟩) hlb).trans (hc (k + 1) 0 (by have := hn.out; omega) (by omega))
      have x3 := (HBw.cell (p := ⟨bb, o + (k + 1) * 2 + 1, none⟩) hlb).trans (hc (k + 1) 1 (by have := hn.out; omega) (by omega))
      have q0 := (hB.out.cell (p := ⟨w.heap.size, 0, none⟩) hw0).trans p0
      have q1 := (hB.out.cell (p := ⟨w.heap.size, 1, none⟩) hw0).trans p1
      have hbw : bb < wr.heap.size := by omega
      have hww : w.heap.size < wr.heap.size := by omega
      obtain ⟨ta, ta'⟩ := rowsOk_at HR.out k (by have := hn.out; omega)
      obtain ⟨tb, tb'⟩ := rowsOk_at HR.out (k + 1) (by have := hn.out; omega)
      have hxl := rows_mono HR.out k (k + 1) (by omega) (by have := hn.out; omega)
      have hbt := sF_btw (t[k]?.getD R.d) (t[k + 1]?.getD R.d) Y hxl
      have hsn := wh_step t Y k hxl
      have hS1 := fun W h => HS.out k (by have := hn.out; omega) W h false
      have hS2 := fun W h => HS.out k (by have := hn.out; omega) W h true
      have hbd := wh_bd t Y HR.out k (by have := hn.out; omega)
      simp only at hS1 hS2
      clear hc
      generalize sF (t[k]?.getD R.d) (t[k + 1]?.getD R.d) Y = F1 at *
      generalize sL (t[k]?.getD R.d) (t[k + 1]?.getD R.d) Y = F2 at *
      generalize t[k]?.getD R.d = x at *
      generalize t[k + 1]?.getD R.d = z at *
      obtain ⟨a0, a1⟩ := x
      obtain ⟨b0, b1⟩ := z
      simp only [R.cell, Nat.add_zero, if_true, Nat.one_ne_zero, if_false] at x0 x1 x2 x3 ta ta' tb tb' hxl hbt hS1 hS2
      generalize whF t Y k = acc at hsn hm hO hbd
      have Hsn := Lib.hid hsn
      have Hbd := Lib.hid hbd
      clear hsn hbd HBw
      have hltz : (k : Int) + 1 < (n : Int) := by omega
      have hk0 : (0 : Int) ≤ (k : Int) := by omega
      have hk1 : (0 : Int) ≤ (k : Int) + 1 := by omega
      have hkn : (k : Int) < (n : Int) := by omega
      have hkw : IntKind.i64.wrap ((k : Int) + 1) = (k : Int) + 1 := by rw [IntKind.wrap_i64]; omega
      have hfw : IntKind.i64.wrap (F2 - 1) = F2 - 1 := by rw [IntKind.wrap_i64]; omega
      go_wp2_with fail
      go_quiet (fail)
      generalize hq : World.drewN wr _ = wd
      have hD : Below wr.heap.size wr wd := drawnB hq
      clear hq
      have hzd := hD.size
      have x1' := (hD.cell (p := ⟨bb, o + k * 2 + 1, none⟩) hbw).trans x1
      have x3' := (hD.cell (p := ⟨bb, o + (k + 1) * 2 + 1, none⟩) hbw).trans x3
      have q0' := (hD.cell (p := ⟨w.heap.size, 0, none⟩) hww).trans q0
      have q1' := (hD.cell (p := ⟨w.heap.size, 1, none⟩) hww).trans q1
      clear x0 x1 x2 x3 q0 q1
      go_wp2_with fail
      go_quiet (fail)
      generalize hq : World.drewN wd _ = we
      have hE : Below wd.heap.size wd we := drawnB hq
      clear hq
      have hze := hE.size
      have HBe : Below W0.heap.size W0 we := (hB.out.trans (hD.mono (by omega))).trans (hE.mono (by omega))
      have r0 := (hE.cell (p := ⟨w.heap.size, 0, none⟩) (by show w.heap.size < _; omega)).trans q0'
      have r1 := (hE.cell (p := ⟨w.heap.size, 1, none⟩) (by show w.heap.size < _; omega)).trans q1'
      have hwe : wr.heap.size ≤ we.heap.size := by omega
      have hDE : Below wr.heap.size wr we := hD.trans (hE.mono (by omega))
      clear x1' x3' q0' q1' hD hE hzd hze hbw
      go_wp2_with fail
      refine (hS1 _ (hB0.trans (HBe.mono (by omega)))).mono ?_
      rintro e w7 ⟨rfl, hb7⟩
      have hz7 := hb7.size
      try simp only [World.size_alloc, World.size_setCell, World.size_drew] at hz7
      have hc7_0 := fun o => hb7.cell (p := ⟨w.heap.size, o, none⟩) (by show w.heap.size < _; first | omega | (simp only [World.size_alloc, World.size_setCell, World.size_drew]; omega))
      have hf7_0 := fun o => hb7.frozen (p := ⟨w.heap.size, o, none⟩) (by show w.heap.size < _; first | omega | (simp only [World.size_alloc, World.size_setCell, World.size_drew]; omega))
      have hz7_0 : w.heap.size < w7.heap.size := by omega
      have HB7 : Below W0.heap.size W0 w7 := HBe.trans (hb7.mono (by omega))
      go_wp2_with fail
      refine (hS2 _ (hB0.trans (HB7.mono (by omega)))).mono ?_
      rintro e w8 ⟨rfl, hb8⟩
      have hz8 := hb8.size
      try simp only [World.size_alloc, World.size_setCell, World.size_drew] at hz8
      have hc8_0 := fun o => hb8.cell (p := ⟨w.heap.size, o, none⟩) (by show w.heap.size < _; first | omega | (simp only [World.size_alloc, World.size_setCell, World.size_drew]; omega))
      have hf8_0 := fun o => hb8.frozen (p := ⟨w.heap.size, o, none⟩) (by show w.heap.size < _; first | omega | (simp only [World.size_alloc, World.size_setCell, World.size_drew]; omega))
      have hz8_0 : w.heap.size < w8.heap.size := by omega
      have HB8 : Below W0.heap.size W0 w8 := HB7.trans (hb8.mono (by omega))
      have hR8 : Below wr.heap.size wr w8 := (hDE.trans (hb7.mono (by omega))).trans (hb8.mono (by omega))
      have hz8 := hR8.size
      have hwg := hO.out.lt
      have hOx : w8.ownsRow W0.heap.size 23 2 (.slice (some ⟨g, 0, none⟩) m c5) m (acc.flatMap rCs) := by
        have := OwnT.below (t := 23) (xs := acc) (v := .slice (some ⟨g, 0, none⟩) m c5) (base := W0.heap.size) (by unfold OwnT; rw [hm.out]; exact hO.out) hR8 (Nat.le_refl _)
        unfold OwnT at this
        rw [hm.out] at this
        exact this
      clear hO hS1 hS2 hb7 hb8 hDE r0 r1 hc7_0 hc8_0 hf7_0 hf8_0 hz7_0 hz8_0 HBe HB7
      by_cases hle : F1 ≤ F2 - 1
      · have hgt : ¬ F2 - 1 < F1 := by omega
        generalize hLH : F2 - 1 = HI at *
        rcases List.eq_nil_or_concat acc with rfl | ⟨ys, l, rfl⟩
        · obtain rfl : m = 0 := hm.out.symm
          have HOx := Lib.hid hOx
          clear hOx
          have hne : ∀ q, (Value.slice (some ⟨g, 0, none⟩) 0 c5).ownBlock = some q → W0.heap.size ≤ q ∧ q < w8.heap.size := HOx.out.lt
          have hOd := HOx.out
          go_wp2_with (at_builtin; (refine wpList_append_lies _ rfl _ _ _ (by rfl) W0.heap.size 23 i5 _ 2 16 Try.underlying53 hi5 hz5 hs5 hb5 rfl (by omega) (.slice (some ⟨g, 0, none⟩) 0 c5) 0 ((([] : List R)).flatMap rCs) (by rfl) (hOd.alloc _) ⟨w8.heap.size, 0, none⟩ 1 1 [.int .i64 F1, .int .i64 HI] (by rfl) (by rfl) (news_two (by simp [go_sem]) (by simp [go_sem])) (by simp [Value.oneCell']) (by omega) (by simp only [maxLen]; omega) (by omega) (by simp; omega) (w8.heap.size + 1) (by simp) ?_); intro g3 c3 w3 o3 hgrow hat3 hlt3)
          have hbA : Below W0.heap.size W0 w3 := Below.grown ((by (try show Below _ _ _); repeat (first | (with_reducible refine Below.setCell ?_ (by first | omega | (simp <;> omega)) _) | (with_reducible refine Below.alloc ?_ (by first | omega | (simp <;> omega)) _) | (with_reducible refine Below.drew ?_) | (with_reducible exact Below.refl _ _) | (with_reducible exact HB8) | (with_reducible refine below_call ?_ (by assumption) (by first | omega | (simp <;> omega))) | (with_reducible refine below_call ?_ (Drew.below (by assumption) _) (by first | omega | (simp <;> omega)))))) hgrow (by simp; omega) (fun q e => (hne q e).1)
          have HEQ : addR (([] : List R)) ⟨F1, HI⟩ = (([] : List R)) ++ [⟨F1, HI⟩] := rfl
          have HEQ' := Lib.hid HEQ
          have HO3 := Lib.hid o3
          clear o3 HEQ hgrow hOd hne
          go_wp2
          go_roundg (n - 1 - (k + 1))
          case measure => omega
          case rel =>
            refine ⟨k + 1, g3, c3, 0 + 1, by omega, by omega, by go_num, by go_num, by omega, ?_, ?_, hbA⟩
            · exact (show _ = _ from by rw [Hsn.out, if_pos (show F1 ≤ HI by omega), HEQ'.out, List.length_append, hm.out]; rfl)
            · rw [Hsn.out, if_pos (show F1 ≤ HI by omega), HEQ'.out, List.flatMap_append]; exact HO3.out
        · rw [List.concat_eq_append] at *
          obtain ⟨l0, l1⟩ := l
          have hbl := Hbd.out ⟨l0, l1⟩ (by simp)
          simp only at hbl
          have hml : m = ys.length + 1 := by have := hm.out; simp at this; omega
          subst hml
          have hc1 : w8.cell? ⟨g, ys.length * 2 + 1, none⟩ = some (.int .i64 l1) := by
            have := hOx.cellAt (ys.length * 2 + 1) (by omega)
            rw [rCs_at _ ys.length 1 (by simp) (by omega)] at this
            simpa [R.cell] using this
          have hf1 : w8.frozen? ⟨g, ys.length * 2 + 1, none⟩ = false := by
            have := hOx.frozenAt (ys.length * 2 + 1)
            simpa using this
          have HOx := Lib.hid hOx
          have hgw := (hwg g rfl).2
          have hmz : (0 : Int) < ((ys.length : Int) + 1) := by omega
          have hmz2 : (0 : Int) ≤ (ys.length : Int) := by omega
          have hwl : IntKind.i64.wrap (l1 + 1) = l1 + 1 := by rw [IntKind.wrap_i64]; omega
          have hgx : g < w8.heap.size := by omega
          have hgb := (hwg g rfl).1
          clear hOx
          by_cases hmer : F1 ≤ l1 + 1
          · go_wp2
            go_roundg (n - 1 - (k + 1))
            case measure => omega
            case rel =>
              refine ⟨k + 1, g, c5, ys.length + 1, by omega, by omega, by go_num, by go_num, by omega, ?_, ?_, (by (try show Below _ _ _); repeat (first | (with_reducible refine Below.setCell ?_ (by first | omega | (simp <;> omega)) _) | (with_reducible refine Below.alloc ?_ (by first | omega | (simp <;> omega)) _) | (with_reducible refine Below.drew ?_) | (with_reducible exact Below.refl _ _) | (with_reducible exact HB8) | (with_reducible refine below_call ?_ (by assumption) (by first | omega | (simp <;> omega))) | (with_reducible refine below_call ?_ (Drew.below (by assumption) _) (by first | omega | (simp <;> omega)))))⟩
              · exact (show _ = _ from by rw [Hsn.out, if_pos (show F1 ≤ HI by omega), addR_snoc, if_pos hmer]; simp)
              · rw [Hsn.out, if_pos (show F1 ≤ HI by omega), addR_snoc, if_pos hmer]
                have o2 := HOx.out
                have o3 := (o2.stored (ys.length * 2 + 1) (.int .i64 (max l1 HI))).1
                rw [rCs_set _ _ _ _ _ rfl] at o3
                exact o3
          · have hmn : l1 + 1 < F1 := by omega
            have hne : ∀ q, (Value.slice (some ⟨g, 0, none⟩) (ys.length + 1) c5).ownBlock = some q → W0.heap.size ≤ q ∧ q < w8.heap.size := HOx.out.lt
            have hOd := HOx.out
            go_wp2_with (at_builtin; (refine wpList_append_lies _ rfl _ _ _ (by rfl) W0.heap.size 23 i5 _ 2 16 Try.underlying53 hi5 hz5 hs5 hb5 rfl (by omega) (.slice (some ⟨g, 0, none⟩) (ys.length + 1) c5) (ys.length + 1) (((ys ++ [(⟨l0, l1⟩ : R)])).flatMap rCs) (by rfl) (hOd.alloc _) ⟨w8.heap.size, 0, none⟩ 1 1 [.int .i64 F1, .int .i64 HI] (by rfl) (by rfl) (news_two (by simp [go_sem]) (by simp [go_sem])) (by simp [Value.oneCell']) (by omega) (by simp only [maxLen]; omega) (by omega) (by simp; omega) (w8.heap.size + 1) (by simp) ?_); intro g3 c3 w3 o3 hgrow hat3 hlt3)
            have hbA : Below W0.heap.size W0 w3 := Below.grown ((by (try show Below _ _ _); repeat (first | (with_reducible refine Below.setCell ?_ (by first | omega | (simp <;> omega)) _) | (with_reducible refine Below.alloc ?_ (by first | omega | (simp <;> omega)) _) | (with_reducible refine Below.drew ?_) | (with_reducible exact Below.refl _ _) | (with_reducible exact HB8) | (with_reducible refine below_call ?_ (by assumption) (by first | omega | (simp <;> omega))) | (with_reducible refine below_call ?_ (Drew.below (by assumption) _) (by first | omega | (simp <;> omega)))))) hgrow (by simp; omega) (fun q e => (hne q e).1)
            have HEQ : addR ((ys ++ [(⟨l0, l1⟩ : R)])) ⟨F1, HI⟩ = ((ys ++ [(⟨l0, l1⟩ : R)])) ++ [⟨F1, HI⟩] := (by rw [addR_snoc, if_neg (show ¬ F1 ≤ l1 + 1 by omega)])
            have HEQ' := Lib.hid HEQ
            have HO3 := Lib.hid o3
            clear o3 HEQ hgrow hOd hne
            go_wp2
            go_roundg (n - 1 - (k + 1))
            case measure => omega
            case rel =>
              refine ⟨k + 1, g3, c3, (ys.length + 1) + 1, by omega, by omega, by go_num, by go_num, by omega, ?_, ?_, hbA⟩
              · exact (show _ = _ from by rw [Hsn.out, if_pos (show F1 ≤ HI by omega), HEQ'.out, List.length_append, hm.out]; rfl)
              · rw [Hsn.out, if_pos (show F1 ≤ HI by omega), HEQ'.out, List.flatMap_append]; exact HO3.out
      · have hgt : F2 - 1 < F1 := by omega
        have HOx := Lib.hid hOx
        clear hOx
        go_wp2
        go_roundg (n - 1 - (k + 1))
        case measure => omega
        case rel =>
          refine ⟨k + 1, g, c5, m, by omega, by omega, by go_num, rfl, by omega, ?_, ?_, HB8⟩
          · rw [Hsn.out, if_neg (show ¬ F1 ≤ F2 - 1 by omega)]; exact hm.out
          · rw [Hsn.out, if_neg (show ¬ F1 ≤ F2 - 1 by omega)]; exact HOx.out
    · have hltz : ¬ (k : Int) + 1 < (n : Int) := by omega
      have hkw : IntKind.i64.wrap ((k : Int) + 1) = (k : Int) + 1 := by rw [IntKind.wrap_i64]; omega
      have hke : k = n - 1 := by omega
      subst hke
      rw [Hres.out] at hO hm
      have HBw : Below w.heap.size w wr := hB0.trans (hB.out.mono (by omega))
      obtain ⟨A', c', e1, e2, e3, e4⟩ := OwnR.reads (xs := res) (base := w.heap.size) (v := .slice (some ⟨g, 0, none⟩) m c5) (OwnR.base (base := W0.heap.size) (by unfold OwnR; rw [hm.out]; exact hO.out) (by omega))
      rw [hm.out] at e1
      injection e1 with e5 e6 e7
      subst e5
      have E4 := Lib.hid e4
      have Hm := Lib.hid hm.out
      clear hO hm e4
      go_wp2
      go_ret
      exact ⟨_, c', by rw [Hm.out]; rfl, E4.out, HBw⟩


end Go.Proofs.Ytfohdafijfjefaa
