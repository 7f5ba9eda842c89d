/- spilelaw01.SpanRows: the first statements. -/
import Derived.Test.YtfohdafijfjefaaRowsBs
set_option linter.unusedSimpArgs false
set_option linter.unusedVariables false
namespace Go.Proofs.Ytfohdafijfjefaa
open Go.RowKit Go.Shelf

set_option maxRecDepth 100000
set_option maxHeartbeats 8000000
theorem rows_main (A : Option Addr) (n c : Nat) (ss : List R) (p0 p1 y0 y1 : Int) (w : World) (hl : StepList w A n c ss) (hp0 : 0 ≤ p0 ∧ p0 ≤ 65535) (hp1 : 0 ≤ p1 ∧ p1 ≤ 65535) (h2 : 2 ≤ n) (h12 : n ≤ 12) (t : List R) (ht : (rowsF ss).2 = t) (a b : Int) (RA : RowsAt t a b)
    (ha : firstX t + p0 % (lastX t - firstX t + 1) = a) (hb : a + p1 % (lastX t - a + 1) = b) (r0 r1 : Int) (hr0 : min y0 y1 = r0) (hr1 : max y0 y1 = r1) (hr : -32768 ≤ r0 ∧ r0 ≤ r1 ∧ r1 ≤ 32767)
    (v0 v1 u0 u1 m0 m1 : Int) (hv : valS t a = ⟨v0, v1⟩) (hu : valS t b = ⟨u0, u1⟩) (hm : valsF t ⟨a, b⟩ t.length = ⟨m0, m1⟩) (P : List R) (q : Nat) (hP : whF t ⟨r0, r1⟩ (t.length - 1) = P) (hq : P.length = q) :
    Calls Try.prog 9 #[.slice A n c, .agg #[.int .u16 p0, .int .u16 p1], .agg #[.int .i16 y0, .int .i16 y1]] w fun e w' => e = .returned (.bool true) ∧ Below w.heap.size w w' := by
  obtain ⟨hlen, hle, hmax, hnone, hx, hsb⟩ := hl
  have hk := fun W => known1_any W
  have hz2 : ¬ (n : Int) < 2 := by omega
  have hz12 : ¬ (12 : Int) < (n : Int) := by omega
  have hlt : t.length = n := by rw [← ht, ← hlen]; have := rowsF_len ss ss.length (Nat.le_refl _); rwa [List.take_length] at this
  have hn : Aside (t.length = n) := hlt
  have hmn : n ≤ maxLen := by unfold maxLen; omega
  have hVa := fun A c W hx => Value_any 0 A n c t a W hx hn hmn
  rw [RA.valA, hv] at hVa
  have hVb := fun A c W hx => Value_any 0 A n c t b W hx hn hmn
  rw [RA.valB, hu] at hVb
  have hVs := fun A c W hx => Values_any 0 A n c t a b W hx hn hmn
  rw [RA.vals, hm] at hVs
  have hWh := fun A c W hx hnc hl => Where_any 0 A n c t r0 r1 W hx hn hnc hl
  rw [RA.wher r0 r1 hr.1 hr.2.1 hr.2.2, hP] at hWh
  have hPl : q ≤ 11 := by rw [← hq, ← hP]; have := wh_len t ⟨r0, r1⟩ (t.length - 1); omega
  have hPm : q ≤ maxLen := by unfold maxLen; omega
  have HQ : Aside (P.length = q) := hq
  have hCk := fun A c W hx => CheckSet_any 0 A q c P W hx HQ hPm
  rw [← hP, RA.check ⟨r0, r1⟩, hP] at hCk
  simp only [RE] at hVa hVb hVs
  have hin := RA.inside
  have hgap := RA.gap
  have hsm := RA.small a RA.h1 (by have := RA.h2; have := RA.h3; omega)
  have hsm2 := RA.small b (by have := RA.h1; have := RA.h2; omega) RA.h3
  rw [hm, hv, hu] at hin
  rw [hv] at hgap hsm
  rw [hu] at hsm2
  simp only at hin hgap hsm hsm2
  obtain ⟨hin1, hin2⟩ := hin
  have i1 := fun W => inside_yes v0 v1 m0 m1 hin1 W
  have i2 := fun W => inside_yes u0 u1 m0 m1 hin2 W
  have hends := RA.ends
  have hfa := RA.h1
  have hab := RA.h2
  have hbl := RA.h3
  have hPe : Aside (∀ j, j < q → firstX t ≤ (P[j]?.getD R.d).lo ∧ (P[j]?.getD R.d).lo ≤ (P[j]?.getD R.d).hi ∧ (P[j]?.getD R.d).hi ≤ lastX t) := by
    intro j hj
    refine RA.ends' ⟨r0, r1⟩ (P[j]?.getD R.d) ?_
    rw [hP, List.getElem?_eq_getElem (by omega)]
    exact List.getElem_mem _
  have hma : Aside (hasF P a = (decide (r0 ≤ v0) && decide (v1 ≤ r1))) := by
    rw [hasF_mem, ← hP, Bool.and_eq_decide]
    have := RA.mem ⟨r0, r1⟩ a hfa (by omega)
    rw [hv] at this
    exact decide_eq_decide.2 (this.trans (by unfold inY; simp))
  have hmb : Aside (hasF P b = (decide (r0 ≤ u0) && decide (u1 ≤ r1))) := by
    rw [hasF_mem, ← hP, Bool.and_eq_decide]
    have := RA.mem ⟨r0, r1⟩ b (by omega) hbl
    rw [hu] at this
    exact decide_eq_decide.2 (this.trans (by unfold inY; simp))
  have hrow : Aside (∀ i, i < n → ∀ A c W, Ranges W 0 A t → Calls Try.prog 59 #[.slice A n c, .int .i64 (t[i]?.getD R.d).lo] W fun e w' => e = .returned (.tuple #[.agg #[.int .i64 (t[i]?.getD R.d).hi, .int .i64 (t[i]?.getD R.d).hi], .int .i64 0]) ∧ Below W.heap.size W w') := by
    intro i hi A c W hx
    have := Value_any 0 A n c t (t[i]?.getD R.d).lo W hx hn hmn
    rw [RA.row i (by omega)] at this
    simpa only [RE] using this
  have hhas : Aside (∀ i, i < n → a ≤ (t[i]?.getD R.d).lo → (t[i]?.getD R.d).lo ≤ b → m0 ≤ (t[i]?.getD R.d).hi ∧ (t[i]?.getD R.d).hi ≤ m1) := by
    intro i hi h1 h2
    have := RA.has i (by omega) ⟨h1, h2⟩
    rwa [hm] at this
  have hbd : Aside (∀ i, i < n → (0 ≤ (t[i]?.getD R.d).lo ∧ (t[i]?.getD R.d).lo ≤ 1000000) ∧ -32768 ≤ (t[i]?.getD R.d).hi ∧ (t[i]?.getD R.d).hi ≤ 32767) := fun i hi => RA.bd i (by omega)
  have hF0 : Aside ((t[0]?.getD R.d).lo = firstX t) := rfl
  have hL0 : Aside ((t[n - 1]?.getD R.d).lo = lastX t) := by show _ = _; unfold lastX; rw [hlt]
  generalize hfx : firstX t = fx at *
  generalize hlx : lastX t = lx at *
  have wp0 : IntKind.i64.wrap p0 = p0 := by rw [IntKind.wrap_i64]; omega
  have wp1 : IntKind.i64.wrap p1 = p1 := by rw [IntKind.wrap_i64]; omega
  have wd0 : IntKind.i64.wrap (lx - fx) = lx - fx := by rw [IntKind.wrap_i64]; omega
  have wd1 : IntKind.i64.wrap (lx - fx + 1) = lx - fx + 1 := by rw [IntKind.wrap_i64]; omega
  have we0 : IntKind.i64.wrap (lx - a) = lx - a := by rw [IntKind.wrap_i64]; omega
  have we1 : IntKind.i64.wrap (lx - a + 1) = lx - a + 1 := by rw [IntKind.wrap_i64]; omega
  have wd2 : ¬ lx - fx + 1 = 0 := by omega
  have wd3 : (lx - fx + 1 == 0) = false := by rw [beq_eq_false_iff_ne]; exact wd2
  have we2 : ¬ lx - a + 1 = 0 := by omega
  have we3 : (lx - a + 1 == 0) = false := by rw [beq_eq_false_iff_ne]; exact we2
  have wa4 : wrap64 (fx + p0 % (lx - fx + 1)) = a := by rw [ha]; exact IntWalk.wrap64_in _ ⟨by omega, by omega⟩
  have wa5 : IntKind.i64.wrap (fx + p0 % (lx - fx + 1)) = a := by rw [ha, IntKind.wrap_i64]; omega
  have wb4 : wrap64 (a + p1 % (lx - a + 1)) = b := by rw [hb]; exact IntWalk.wrap64_in _ ⟨by omega, by omega⟩
  have wb5 : IntKind.i64.wrap (a + p1 % (lx - a + 1)) = b := by rw [hb, IntKind.wrap_i64]; omega
  have wr0 : IntKind.i64.wrap r0 = r0 := by rw [IntKind.wrap_i64]; omega
  have wr1 : IntKind.i64.wrap r1 = r1 := by rw [IntKind.wrap_i64]; omega
  have hwn : IntKind.i64.wrap ((n : Int) - 1) = ((n - 1 : Nat) : Int) := by rw [IntKind.wrap_i64]; omega
  have hwn0 : (0 : Int) ≤ ((n - 1 : Nat) : Int) := by omega
  have hwn1 : ((n - 1 : Nat) : Int) < (n : Int) := by omega
  have hnp : (0 : Int) < (n : Int) := by omega
  have hn1 : n - 1 < n := by omega
  have hn0 : 0 < n := by omega
  have hp0' := hp0.1
  have hp1' := hp1.1
  obtain ⟨i5, hi5, hz5, hs5, hb5⟩ := info_parts infoRow
  have HS := Lib.hid hsb
  have HX := Lib.hid hx
  have HT := Lib.hid ht
  have Ha := Lib.hid ha
  have Hb := Lib.hid hb
  have HL := Lib.hid hlen
  clear hsb hx ht ha hb hlen hnone hp0 hp1
  have KEEP := Lib.hid (And.intro RA (And.intro hfx (And.intro hlx (And.intro hv (And.intro hu (And.intro hP (And.intro hq (And.intro hlt hm))))))))
  clear RA hfx hlx hv hu hP hq hlt hm
  refine calls_of_wp Try.func9 rfl ?_
  refine wp_tail 14 (show tail14 = dropC 14 (bodyC Try.f9) from rfl) ?_
  conv => arg 2; simp only [mkC]
  simp only [Try.ntmps9, List.size_toArray, List.length_cons, List.length_nil, Nat.reduceAdd, Nat.reduceSub, Array.replicate_succ, Array.replicate_zero, List.push_toArray, List.append_toArray, List.nil_append, List.cons_append]
  go_wp2_with fail
  go_loopg [7, 8, 9] (n) (fun gg v7 v8 i wr => ∃ k g c7 : Nat, k ≤ n ∧ n - k ≤ gg ∧ i = .int .i64 k ∧ v8 = .int .i64 (rowsF (ss.take k)).1 ∧ v7 = rowV g k c7 ∧ Aside (RowI w (rowsF (ss.take k)).2 k g c7 p0 p1 y0 y1 wr))
  case atStart =>
    refine ⟨0, _, _, Nat.zero_le _, Nat.le_refl _, rfl, rfl, rfl, ?_⟩
    have ho := World.ownsRow_lit (base := w.heap.size + 2) (e := 81) (size := 2) ((w.alloc (.cells #[.int .u16 p0, .int .u16 p1] 76)).alloc (.cells #[.int .i16 y0, .int .i16 y1] 78)) #[] 0 (by simp) (by decide) rfl
    exact { below := (by (try show Below _ _ _); repeat (first | (with_reducible refine Below.setCell ?_ (by first | omega | (simp <;> omega)) _) | (with_reducible refine Below.alloc ?_ (by first | omega | (simp <;> omega)) _) | (with_reducible refine Below.drew ?_) | (with_reducible exact Below.refl _ _) | (with_reducible refine below_call ?_ (by assumption) (by first | omega | (simp <;> omega))) | (with_reducible refine below_call ?_ (Drew.below (by assumption) _) (by first | omega | (simp <;> omega))))), own := (by simpa [rowsF] using ho), a0 := (by simp [go_sem]), a1 := (by simp [go_sem]), b0 := (by simp [go_sem]), b1 := (by simp [go_sem]), sz := (by simp) }
  case round =>
    obtain ⟨k, g, c7, hkn, hg, rfl, rfl, rfl, I⟩ := hrel
    by_cases hlt : k < n
    · obtain ⟨bb, o, rfl, _, hlb, hc⟩ := HX.out (by have := HL.out; omega)
      obtain ⟨J1, J2, J3, J4, J5, J6, J7⟩ := I.out
      have x0 := (J1.cell (p := ⟨bb, o + k * 2 + 0, none⟩) hlb).trans (hc k 0 (by have := HL.out; omega) (by omega))
      have x1 := (J1.cell (p := ⟨bb, o + k * 2 + 1, none⟩) hlb).trans (hc k 1 (by have := HL.out; omega) (by omega))
      have hsk := HS.out (ss[k]?.getD R.d) (by rw [List.getElem?_eq_getElem (by have := HL.out; omega)]; exact List.getElem_mem _)
      have hnx := rowsF_snoc ss k (by have := HL.out; omega)
      have hok := rowsF_ok ss (fun s hs => (HS.out s hs).2) k (by have := HL.out; omega) (by omega)
      obtain ⟨-, hokx, -⟩ := hok
      have hbw : bb < wr.heap.size := by have := J1.size; omega
      clear hc I
      generalize ss[k]?.getD R.d = s at x0 x1 hsk hnx
      obtain ⟨s0, s1⟩ := s
      simp only [S16, Nat.add_zero, if_true, Nat.one_ne_zero, if_false] at x0 x1 hsk
      obtain ⟨⟨hs0, hs0'⟩, ⟨hs1, hs1'⟩⟩ := hsk
      unfold rowsStep at hnx
      simp only at hnx
      generalize rowsF (ss.take k) = st at hnx hokx J2
      obtain ⟨X, l⟩ := st
      simp only at hnx hokx J2
      have cx1 : IntKind.u16.wrap s0 = s0 % 65536 := by rw [IntKind.wrap]; simp [IntKind.signed, IntKind.bits]
      have cx2 : IntKind.i64.wrap (s0 % 65536) = s0 % 65536 := by rw [IntKind.wrap_i64]; omega
      have cx3 : IntKind.i64.wrap (1 + s0 % 65536) = 1 + s0 % 65536 := by rw [IntKind.wrap_i64]; omega
      have cx4 : IntKind.i64.wrap s1 = s1 := by rw [IntKind.wrap_i64]; omega
      have cx5 : wrap64 (1 + s0 % 65536) = 1 + s0 % 65536 := IntWalk.wrap64_in _ ⟨by omega, by omega⟩
      have hXX : X + (1 + s0 % 65536) ≤ 2000000 ∧ 0 ≤ X + (1 + s0 % 65536) := by omega
      generalize hX' : X + (1 + s0 % 65536) = X' at hnx hXX
      have cx6 : wrap64 X' = X' := IntWalk.wrap64_in _ ⟨by omega, by omega⟩
      have cx7 : IntKind.i64.wrap X' = X' := by rw [IntKind.wrap_i64]; omega
      have hi0 : (0 : Int) ≤ (k : Int) := Int.natCast_nonneg _
      have hltz : (k : Int) < (n : Int) := by omega
      have hgl := J2.lt g rfl
      have Hnx := Lib.hid hnx
      have J2a := J2.alloc (.cells #[.int .i64 X', .int .i64 s1] 81)
      clear hnx hokx
      go_wp2_with (at_builtin; (refine wpList_append_lies _ rfl _ _ _ (by rfl) (w.heap.size + 2) 81 i5 _ 2 16 Try.underlying79 hi5 hz5 hs5 hb5 rfl (by omega) (rowV g k c7) k (l.flatMap rCs) (by rfl) J2a ⟨wr.heap.size, 0, none⟩ 1 1 [.int .i64 X', .int .i64 s1] (by rfl) (by rfl) (news_two (by simp [go_sem]) (by simp [go_sem])) (by simp [Value.oneCell']) (by omega) (by simp only [maxLen]; omega) (by omega) (by simp; omega) (wr.heap.size + 1) (by simp) ?_); intro g3 c3 w3 o3 hgrow hat3 hlt3)
      go_wp2
      have hfar : ∀ bq oq, bq < w.heap.size + 2 → w3.cell? ⟨bq, oq, none⟩ = wr.cell? ⟨bq, oq, none⟩ := by
        intro bq oq hq
        rw [hgrow.cell_far _ (by simp; omega) (by simp [Value.ownBlock]; omega)]
        exact World.cell?_alloc_lt _ _ _ (by show bq < _; omega)
      go_roundg (n - (k + 1))
      case measure => omega
      case rel =>
        refine ⟨k + 1, g3, c3, by omega, by omega, by go_num, by rw [Hnx.out], rfl, ?_⟩
        exact { below := Below.grown ((by (try show Below _ _ _); repeat (first | (with_reducible refine Below.setCell ?_ (by first | omega | (simp <;> omega)) _) | (with_reducible refine Below.alloc ?_ (by first | omega | (simp <;> omega)) _) | (with_reducible refine Below.drew ?_) | (with_reducible exact Below.refl _ _) | (with_reducible exact J1) | (with_reducible refine below_call ?_ (by assumption) (by first | omega | (simp <;> omega))) | (with_reducible refine below_call ?_ (Drew.below (by assumption) _) (by first | omega | (simp <;> omega)))))) hgrow (by simp; omega) (by simp [Value.ownBlock]; omega), own := (by rw [Hnx.out]; simp only [List.flatMap_append]; exact o3), a0 := (hfar _ _ (by omega)).trans J3, a1 := (hfar _ _ (by omega)).trans J4, b0 := (hfar _ _ (by omega)).trans J5, b1 := (hfar _ _ (by omega)).trans J6, sz := (by have := hgrow.size; simp at this; omega) }
    · have hltz : ¬ (k : Int) < (n : Int) := by omega
      obtain rfl : k = n := by omega
      obtain ⟨w1, hw1⟩ : ∃ x, x = wr := ⟨_, rfl⟩
      subst hw1
      obtain ⟨hB1, J2, f1_b0_0, f1_b0_1, f1_b1_0, f1_b1_1, l1_1⟩ := I.out
      rw [List.take_of_length_le (by have := HL.out; omega), HT.out] at J2
      obtain ⟨hc7, hc7m, ht⟩ := rowT_reads J2 hn.out
      replace ht := ht.mono (Nat.zero_le _)
      have l1_0 : w.heap.size < w1.heap.size := by omega
      clear I J2
      have G0 := (rng_at ht 0 (by have := hn.out; omega)).1
      have G1 := (rng_at ht (k - 1) (by have := hn.out; omega)).1
      rw [hF0.out] at G0
      rw [hL0.out] at G1
      simp only [Nat.zero_mul, Nat.zero_add, Nat.add_zero] at G0 G1
      have h1 := fun W hx => copy_60 0 (some ⟨g, 0, none⟩) k c7 t W hx hn.out (fun h => by cases h) (by omega)
      go_wp2_with fail
      go_quiet (fail)
      generalize hq2 : World.drewN w1 _ = w2
      have hb2 := drawnB hq2
      clear hq2
      have hz2 := hb2.size
      (try simp only [World.size_alloc, World.size_setCell, World.size_drew] at hz2)
      have hB1_2 : Below w1.heap.size w1 w2 := ub0 (Below.refl _ _) hb2
      have f2_b0_0 := up0 hb2 (by omega) f1_b0_0
      have f2_b0_1 := up0 hb2 (by omega) f1_b0_1
      have f2_b1_0 := up0 hb2 (by omega) f1_b1_0
      have f2_b1_1 := up0 hb2 (by omega) f1_b1_1
      have hB2 : Below w.heap.size w w2 := ub0 (hB1) hb2
      clear hb2 hB1 f1_b0_0 f1_b0_1 f1_b1_0 f1_b1_1
      have l2_0 : w.heap.size < w2.heap.size := by omega
      have l2_1 : w.heap.size + 1 < w2.heap.size := by omega
      clear l1_0 l1_1
      clear G0 G1
      go_wp2_with fail
      refine (h1 _ (ht.below (ua1 (hB1_2)) (Nat.le_refl _))).mono ?_
      rintro e w3 ⟨A1, c1, rfl, hc1, hm1, hy1, hb3⟩
      replace hy1 := hy1.mono (Nat.zero_le _)
      have hz3 := hb3.size
      (try simp only [World.size_alloc, World.size_setCell, World.size_drew] at hz3)
      have hB1_3 : Below w1.heap.size w1 w3 := ub1 (hB1_2) hb3
      clear hB1_2
      have f3_b0_0 := up1 hb3 (by omega) f2_b0_0
      have f3_b0_1 := up1 hb3 (by omega) f2_b0_1
      have f3_b1_0 := up1 hb3 (by omega) f2_b1_0
      have f3_b1_1 := up1 hb3 (by omega) f2_b1_1
      have f3_b2_0 : w3.cell? ⟨w2.heap.size, 0, none⟩ = some (.int .i64 r0) := (hb3.cell (p := ⟨w2.heap.size, 0, none⟩) (by show w2.heap.size < _; first | omega | (simp only [World.size_alloc, World.size_setCell, World.size_drew]; omega))).trans (by simp [go_sem, cell_set])
      have f3_b2_1 : w3.cell? ⟨w2.heap.size, 1, none⟩ = some (.int .i64 r1) := (hb3.cell (p := ⟨w2.heap.size, 1, none⟩) (by show w2.heap.size < _; first | omega | (simp only [World.size_alloc, World.size_setCell, World.size_drew]; omega))).trans (by simp [go_sem, cell_set])
      have hB3 : Below w.heap.size w w3 := ub1 (hB2) hb3
      clear hb3 hB2 f2_b0_0 f2_b0_1 f2_b1_0 f2_b1_1
      have l3_0 : w.heap.size < w3.heap.size := by omega
      have l3_1 : w.heap.size + 1 < w3.heap.size := by omega
      have l3_2 : w2.heap.size < w3.heap.size := by omega
      clear l2_0 l2_1
      go_wp2_with fail
      refine (hVa _ _ _ (hy1.below (Below.refl _ _) (Nat.le_refl _))).mono ?_
      rintro e w4 ⟨rfl, hb4⟩
      have hz4 := hb4.size
      (try simp only [World.size_alloc, World.size_setCell, World.size_drew] at hz4)
      have hB1_4 : Below w1.heap.size w1 w4 := ub0 (hB1_3) hb4
      clear hB1_3
      have hB3_4 : Below w3.heap.size w3 w4 := ub0 (Below.refl _ _) hb4
      have f4_b0_0 := up0 hb4 (by omega) f3_b0_0
      have f4_b0_1 := up0 hb4 (by omega) f3_b0_1
      have f4_b1_0 := up0 hb4 (by omega) f3_b1_0
      have f4_b1_1 := up0 hb4 (by omega) f3_b1_1
      have f4_b2_0 := up0 hb4 (by omega) f3_b2_0
      have f4_b2_1 := up0 hb4 (by omega) f3_b2_1
      have hB4 : Below w.heap.size w w4 := ub0 (hB3) hb4
      clear hb4 hB3 f3_b0_0 f3_b0_1 f3_b1_0 f3_b1_1 f3_b2_0 f3_b2_1
      have l4_0 : w.heap.size < w4.heap.size := by omega
      have l4_1 : w.heap.size + 1 < w4.heap.size := by omega
      have l4_2 : w2.heap.size < w4.heap.size := by omega
      clear l3_0 l3_1 l3_2
      go_wp2_with fail
      refine (h1 _ (ht.below (ua1 (hB1_4)) (Nat.le_refl _))).mono ?_
      rintro e w5 ⟨A2, c2, rfl, hc2, hm2, hy2, hb5⟩
      replace hy2 := hy2.mono (Nat.zero_le _)
      have hz5 := hb5.size
      (try simp only [World.size_alloc, World.size_setCell, World.size_drew] at hz5)
      have hB1_5 : Below w1.heap.size w1 w5 := ub1 (hB1_4) hb5
      clear hB1_4
      have hB3_5 : Below w3.heap.size w3 w5 := ub1 (hB3_4) hb5
      clear hB3_4
      have f5_b0_0 := up1 hb5 (by omega) f4_b0_0
      have f5_b0_1 := up1 hb5 (by omega) f4_b0_1
      have f5_b1_0 := up1 hb5 (by omega) f4_b1_0
      have f5_b1_1 := up1 hb5 (by omega) f4_b1_1
      have f5_b2_0 := up1 hb5 (by omega) f4_b2_0
      have f5_b2_1 := up1 hb5 (by omega) f4_b2_1
      have f5_b3_0 : w5.cell? ⟨w4.heap.size, 0, none⟩ = some (.int .i64 v0) := (hb5.cell (p := ⟨w4.heap.size, 0, none⟩) (by show w4.heap.size < _; first | omega | (simp only [World.size_alloc, World.size_setCell, World.size_drew]; omega))).trans (by simp [go_sem, cell_set])
      have f5_b3_1 : w5.cell? ⟨w4.heap.size, 1, none⟩ = some (.int .i64 v1) := (hb5.cell (p := ⟨w4.heap.size, 1, none⟩) (by show w4.heap.size < _; first | omega | (simp only [World.size_alloc, World.size_setCell, World.size_drew]; omega))).trans (by simp [go_sem, cell_set])
      have hB5 : Below w.heap.size w w5 := ub1 (hB4) hb5
      clear hb5 hB4 f4_b0_0 f4_b0_1 f4_b1_0 f4_b1_1 f4_b2_0 f4_b2_1
      have l5_0 : w.heap.size < w5.heap.size := by omega
      have l5_1 : w.heap.size + 1 < w5.heap.size := by omega
      have l5_2 : w2.heap.size < w5.heap.size := by omega
      have l5_3 : w4.heap.size < w5.heap.size := by omega
      clear l4_0 l4_1 l4_2
      go_wp2_with fail
      refine (hVb _ _ _ (hy2.below (Below.refl _ _) (Nat.le_refl _))).mono ?_
      rintro e w6 ⟨rfl, hb6⟩
      have hz6 := hb6.size
      (try simp only [World.size_alloc, World.size_setCell, World.size_drew] at hz6)
      have hB1_6 : Below w1.heap.size w1 w6 := ub0 (hB1_5) hb6
      clear hB1_5
      have hB3_6 : Below w3.heap.size w3 w6 := ub0 (hB3_5) hb6
      clear hB3_5
      have hB5_6 : Below w5.heap.size w5 w6 := ub0 (Below.refl _ _) hb6
      have f6_b0_0 := up0 hb6 (by omega) f5_b0_0
      have f6_b0_1 := up0 hb6 (by omega) f5_b0_1
      have f6_b1_0 := up0 hb6 (by omega) f5_b1_0
      have f6_b1_1 := up0 hb6 (by omega) f5_b1_1
      have f6_b2_0 := up0 hb6 (by omega) f5_b2_0
      have f6_b2_1 := up0 hb6 (by omega) f5_b2_1
      have f6_b3_0 := up0 hb6 (by omega) f5_b3_0
      have f6_b3_1 := up0 hb6 (by omega) f5_b3_1
      have hB6 : Below w.heap.size w w6 := ub0 (hB5) hb6
      clear hb6 hB5 f5_b0_0 f5_b0_1 f5_b1_0 f5_b1_1 f5_b2_0 f5_b2_1 f5_b3_0 f5_b3_1
      have l6_0 : w.heap.size < w6.heap.size := by omega
      have l6_1 : w.heap.size + 1 < w6.heap.size := by omega
      have l6_2 : w2.heap.size < w6.heap.size := by omega
      have l6_3 : w4.heap.size < w6.heap.size := by omega
      clear l5_0 l5_1 l5_2 l5_3
      go_wp2_with fail
      refine (h1 _ (ht.below (ua1 (hB1_6)) (Nat.le_refl _))).mono ?_
      rintro e w7 ⟨A3, c3, rfl, hc3, hm3, hy3, hb7⟩
      replace hy3 := hy3.mono (Nat.zero_le _)
      have hz7 := hb7.size
      (try simp only [World.size_alloc, World.size_setCell, World.size_drew] at hz7)
      have hB1_7 : Below w1.heap.size w1 w7 := ub1 (hB1_6) hb7
      clear hB1_6
      have hB3_7 : Below w3.heap.size w3 w7 := ub1 (hB3_6) hb7
      clear hB3_6
      have hB5_7 : Below w5.heap.size w5 w7 := ub1 (hB5_6) hb7
      clear hB5_6
      have f7_b0_0 := up1 hb7 (by omega) f6_b0_0
      have f7_b0_1 := up1 hb7 (by omega) f6_b0_1
      have f7_b1_0 := up1 hb7 (by omega) f6_b1_0
      have f7_b1_1 := up1 hb7 (by omega) f6_b1_1
      have f7_b2_0 := up1 hb7 (by omega) f6_b2_0
      have f7_b2_1 := up1 hb7 (by omega) f6_b2_1
      have f7_b3_0 := up1 hb7 (by omega) f6_b3_0
      have f7_b3_1 := up1 hb7 (by omega) f6_b3_1
      have f7_b4_0 : w7.cell? ⟨w6.heap.size, 0, none⟩ = some (.int .i64 u0) := (hb7.cell (p := ⟨w6.heap.size, 0, none⟩) (by show w6.heap.size < _; first | omega | (simp only [World.size_alloc, World.size_setCell, World.size_drew]; omega))).trans (by simp [go_sem, cell_set])
      have f7_b4_1 : w7.cell? ⟨w6.heap.size, 1, none⟩ = some (.int .i64 u1) := (hb7.cell (p := ⟨w6.heap.size, 1, none⟩) (by show w6.heap.size < _; first | omega | (simp only [World.size_alloc, World.size_setCell, World.size_drew]; omega))).trans (by simp [go_sem, cell_set])
      have hB7 : Below w.heap.size w w7 := ub1 (hB6) hb7
      clear hb7 hB6 f6_b0_0 f6_b0_1 f6_b1_0 f6_b1_1 f6_b2_0 f6_b2_1 f6_b3_0 f6_b3_1
      have l7_0 : w.heap.size < w7.heap.size := by omega
      have l7_1 : w.heap.size + 1 < w7.heap.size := by omega
      have l7_2 : w2.heap.size < w7.heap.size := by omega
      have l7_3 : w4.heap.size < w7.heap.size := by omega
      have l7_4 : w6.heap.size < w7.heap.size := by omega
      clear l6_0 l6_1 l6_2 l6_3
      go_wp2_with fail
      refine (hVs _ _ _ (hy3.below (Below.refl _ _) (Nat.le_refl _))).mono ?_
      rintro e w8 ⟨rfl, hb8⟩
      have hz8 := hb8.size
      (try simp only [World.size_alloc, World.size_setCell, World.size_drew] at hz8)
      have hB1_8 : Below w1.heap.size w1 w8 := ub0 (hB1_7) hb8
      clear hB1_7
      have hB3_8 : Below w3.heap.size w3 w8 := ub0 (hB3_7) hb8
      clear hB3_7
      have hB5_8 : Below w5.heap.size w5 w8 := ub0 (hB5_7) hb8
      clear hB5_7
      have hB7_8 : Below w7.heap.size w7 w8 := ub0 (Below.refl _ _) hb8
      have f8_b0_0 := up0 hb8 (by omega) f7_b0_0
      have f8_b0_1 := up0 hb8 (by omega) f7_b0_1
      have f8_b1_0 := up0 hb8 (by omega) f7_b1_0
      have f8_b1_1 := up0 hb8 (by omega) f7_b1_1
      have f8_b2_0 := up0 hb8 (by omega) f7_b2_0
      have f8_b2_1 := up0 hb8 (by omega) f7_b2_1
      have f8_b3_0 := up0 hb8 (by omega) f7_b3_0
      have f8_b3_1 := up0 hb8 (by omega) f7_b3_1
      have f8_b4_0 := up0 hb8 (by omega) f7_b4_0
      have f8_b4_1 := up0 hb8 (by omega) f7_b4_1
      have hB8 : Below w.heap.size w w8 := ub0 (hB7) hb8
      clear hb8 hB7 f7_b0_0 f7_b0_1 f7_b1_0 f7_b1_1 f7_b2_0 f7_b2_1 f7_b3_0 f7_b3_1 f7_b4_0 f7_b4_1
      have l8_0 : w.heap.size < w8.heap.size := by omega
      have l8_1 : w.heap.size + 1 < w8.heap.size := by omega
      have l8_2 : w2.heap.size < w8.heap.size := by omega
      have l8_3 : w4.heap.size < w8.heap.size := by omega
      have l8_4 : w6.heap.size < w8.heap.size := by omega
      clear l7_0 l7_1 l7_2 l7_3 l7_4
      go_wp2_with fail
      generalize hq9 : World.alloc w8 _ = w9
      have hb9 := froze hq9
      clear hq9
      have hz9 := hb9.size
      (try simp only [World.size_alloc, World.size_setCell, World.size_drew] at hz9)
      have hB1_9 : Below w1.heap.size w1 w9 := ub1 (hB1_8) hb9
      clear hB1_8
      have hB3_9 : Below w3.heap.size w3 w9 := ub1 (hB3_8) hb9
      clear hB3_8
      have hB5_9 : Below w5.heap.size w5 w9 := ub1 (hB5_8) hb9
      clear hB5_8
      have hB7_9 : Below w7.heap.size w7 w9 := ub1 (hB7_8) hb9
      clear hB7_8
      have f9_b0_0 := up1 hb9 (by omega) f8_b0_0
      have f9_b0_1 := up1 hb9 (by omega) f8_b0_1
      have f9_b1_0 := up1 hb9 (by omega) f8_b1_0
      have f9_b1_1 := up1 hb9 (by omega) f8_b1_1
      have f9_b2_0 := up1 hb9 (by omega) f8_b2_0
      have f9_b2_1 := up1 hb9 (by omega) f8_b2_1
      have f9_b3_0 := up1 hb9 (by omega) f8_b3_0
      have f9_b3_1 := up1 hb9 (by omega) f8_b3_1
      have f9_b4_0 := up1 hb9 (by omega) f8_b4_0
      have f9_b4_1 := up1 hb9 (by omega) f8_b4_1
      have f9_b5_0 : w9.cell? ⟨w8.heap.size, 0, none⟩ = some (.int .i64 m0) := (hb9.cell (p := ⟨w8.heap.size, 0, none⟩) (by show w8.heap.size < _; first | omega | (simp only [World.size_alloc, World.size_setCell, World.size_drew]; omega))).trans (by simp [go_sem, cell_set])
      have f9_b5_1 : w9.cell? ⟨w8.heap.size, 1, none⟩ = some (.int .i64 m1) := (hb9.cell (p := ⟨w8.heap.size, 1, none⟩) (by show w8.heap.size < _; first | omega | (simp only [World.size_alloc, World.size_setCell, World.size_drew]; omega))).trans (by simp [go_sem, cell_set])
      have hB9 : Below w.heap.size w w9 := ub1 (hB8) hb9
      clear hb9 hB8 f8_b0_0 f8_b0_1 f8_b1_0 f8_b1_1 f8_b2_0 f8_b2_1 f8_b3_0 f8_b3_1 f8_b4_0 f8_b4_1
      have l9_0 : w.heap.size < w9.heap.size := by omega
      have l9_1 : w.heap.size + 1 < w9.heap.size := by omega
      have l9_2 : w2.heap.size < w9.heap.size := by omega
      have l9_3 : w4.heap.size < w9.heap.size := by omega
      have l9_4 : w6.heap.size < w9.heap.size := by omega
      have l9_5 : w8.heap.size < w9.heap.size := by omega
      clear l8_0 l8_1 l8_2 l8_3 l8_4
      have hAll10 : Aside (∀ W, Below w9.heap.size w9 W → (Below w9.heap.size w9 W ∧ W.cell? ⟨w.heap.size, 0, none⟩ = some (.int .u16 p0) ∧ W.cell? ⟨w.heap.size, 1, none⟩ = some (.int .u16 p1) ∧ W.cell? ⟨w.heap.size + 1, 0, none⟩ = some (.int .i16 y0) ∧ W.cell? ⟨w.heap.size + 1, 1, none⟩ = some (.int .i16 y1) ∧ W.cell? ⟨w2.heap.size, 0, none⟩ = some (.int .i64 r0) ∧ W.cell? ⟨w2.heap.size, 1, none⟩ = some (.int .i64 r1) ∧ W.cell? ⟨w4.heap.size, 0, none⟩ = some (.int .i64 v0) ∧ W.cell? ⟨w4.heap.size, 1, none⟩ = some (.int .i64 v1) ∧ W.cell? ⟨w6.heap.size, 0, none⟩ = some (.int .i64 u0) ∧ W.cell? ⟨w6.heap.size, 1, none⟩ = some (.int .i64 u1) ∧ W.cell? ⟨w8.heap.size, 0, none⟩ = some (.int .i64 m0) ∧ W.cell? ⟨w8.heap.size, 1, none⟩ = some (.int .i64 m1))) := fun W hT => ⟨hT, (hT.cell (p := ⟨w.heap.size, 0, none⟩) (by show w.heap.size < _; omega)).trans f9_b0_0, (hT.cell (p := ⟨w.heap.size, 1, none⟩) (by show w.heap.size < _; omega)).trans f9_b0_1, (hT.cell (p := ⟨w.heap.size + 1, 0, none⟩) (by show w.heap.size + 1 < _; omega)).trans f9_b1_0, (hT.cell (p := ⟨w.heap.size + 1, 1, none⟩) (by show w.heap.size + 1 < _; omega)).trans f9_b1_1, (hT.cell (p := ⟨w2.heap.size, 0, none⟩) (by show w2.heap.size < _; omega)).trans f9_b2_0, (hT.cell (p := ⟨w2.heap.size, 1, none⟩) (by show w2.heap.size < _; omega)).trans f9_b2_1, (hT.cell (p := ⟨w4.heap.size, 0, none⟩) (by show w4.heap.size < _; omega)).trans f9_b3_0, (hT.cell (p := ⟨w4.heap.size, 1, none⟩) (by show w4.heap.size < _; omega)).trans f9_b3_1, (hT.cell (p := ⟨w6.heap.size, 0, none⟩) (by show w6.heap.size < _; omega)).trans f9_b4_0, (hT.cell (p := ⟨w6.heap.size, 1, none⟩) (by show w6.heap.size < _; omega)).trans f9_b4_1, (hT.cell (p := ⟨w8.heap.size, 0, none⟩) (by show w8.heap.size < _; omega)).trans f9_b5_0, (hT.cell (p := ⟨w8.heap.size, 1, none⟩) (by show w8.heap.size < _; omega)).trans f9_b5_1⟩
      go_upto_region 16 with (fail)
      go_cut [21, 22] (fun s21 s22 wx => ∃ A5 c5, s21 = .slice A5 q c5 ∧ s22 = .int .i64 0 ∧ Aside (Below w9.heap.size w9 wx ∧ c5 ≤ maxLen ∧ (A5 = none → q = 0 ∧ c5 = 0) ∧ Ranges wx 0 A5 P))
      case first =>
        go_region_held3 (fun W => Below w9.heap.size w9 W ∧ W.cell? ⟨w.heap.size, 0, none⟩ = some (.int .u16 p0) ∧ W.cell? ⟨w.heap.size, 1, none⟩ = some (.int .u16 p1) ∧ W.cell? ⟨w.heap.size + 1, 0, none⟩ = some (.int .i16 y0) ∧ W.cell? ⟨w.heap.size + 1, 1, none⟩ = some (.int .i16 y1) ∧ W.cell? ⟨w2.heap.size, 0, none⟩ = some (.int .i64 r0) ∧ W.cell? ⟨w2.heap.size, 1, none⟩ = some (.int .i64 r1) ∧ W.cell? ⟨w4.heap.size, 0, none⟩ = some (.int .i64 v0) ∧ W.cell? ⟨w4.heap.size, 1, none⟩ = some (.int .i64 v1) ∧ W.cell? ⟨w6.heap.size, 0, none⟩ = some (.int .i64 u0) ∧ W.cell? ⟨w6.heap.size, 1, none⟩ = some (.int .i64 u1) ∧ W.cell? ⟨w8.heap.size, 0, none⟩ = some (.int .i64 m0) ∧ W.cell? ⟨w8.heap.size, 1, none⟩ = some (.int .i64 m1))
            (exact hAll10.out _ (by repeat (first | (with_reducible assumption) | exact Below.refl _ _ | (with_reducible refine ua1 ?_) | (with_reducible refine Below.setCell ?_ (by first | omega | (simp <;> omega)) _) | (with_reducible refine Below.alloc ?_ (by first | omega | (simp <;> omega)) _) | (with_reducible refine Below.drew ?_))))
            (first | (go_at_call 60; refine (h1 _ (ht.below (below_call (hB1_9) (by repeat (first | (with_reducible assumption) | exact Below.refl _ _ | (with_reducible refine ua1 ?_) | (with_reducible refine Below.setCell ?_ (by first | omega | (simp <;> omega)) _) | (with_reducible refine Below.alloc ?_ (by first | omega | (simp <;> omega)) _) | (with_reducible refine Below.drew ?_))) (by omega)) (Nat.le_refl _))).mono ?_; rintro e wq ⟨A4, c4, rfl, hc4, hm4, hy4, hbq⟩; have hTq : Below w9.heap.size w9 wq := below_call (by repeat (first | (with_reducible assumption) | exact Below.refl _ _ | (with_reducible refine ua1 ?_) | (with_reducible refine Below.setCell ?_ (by first | omega | (simp <;> omega)) _) | (with_reducible refine Below.alloc ?_ (by first | omega | (simp <;> omega)) _) | (with_reducible refine Below.drew ?_))) hbq (by first | omega | (simp <;> omega)); replace hy4 := hy4.mono (Nat.zero_le _); clear hbq) | (go_at_call 62; refine (hWh _ _ _ (hy4.below (by repeat (first | (with_reducible assumption) | exact Below.refl _ _ | (with_reducible refine ua1 ?_) | (with_reducible refine Below.setCell ?_ (by first | omega | (simp <;> omega)) _) | (with_reducible refine Below.alloc ?_ (by first | omega | (simp <;> omega)) _) | (with_reducible refine Below.drew ?_))) (Nat.le_refl _)) hc4 hm4).mono ?_; rintro e wp ⟨v5, rfl, ho5, -, hbp⟩; have hTp : Below w9.heap.size w9 wp := below_call (by repeat (first | (with_reducible assumption) | exact Below.refl _ _ | (with_reducible refine ua1 ?_) | (with_reducible refine Below.setCell ?_ (by first | omega | (simp <;> omega)) _) | (with_reducible refine Below.alloc ?_ (by first | omega | (simp <;> omega)) _) | (with_reducible refine Below.drew ?_))) hbp (by have := hTq.size; first | omega | (simp <;> omega)); obtain ⟨A5, c5, hv5, hc5, hm5, hP5⟩ := ho5.reads; subst hv5; have hn5 := ho5.none; rw [HQ.out] at hn5; rw [HQ.out]; clear hbp ho5))
        all_goals
          go_wp2_with fail
          go_meet
          exact ⟨_, _, rfl, rfl, hTp, hm5, hn5, hP5.mono (Nat.zero_le _)⟩
      case rest =>
        obtain ⟨A5, c5, rfl, rfl, I10⟩ := hcut
        obtain ⟨w10, hw10, hb10⟩ : ∃ x, x = _ ∧ Below w9.heap.size w9 x := ⟨_, rfl, I10.out.1⟩
        subst hw10
        obtain ⟨-, hm5, hn5, hP5⟩ := I10.out
        clear I10
        have hz10 := hb10.size
        (try simp only [World.size_alloc, World.size_setCell, World.size_drew] at hz10)
        have hB1_10 : Below w1.heap.size w1 w10 := ub0 (hB1_9) hb10
        clear hB1_9
        have hB3_10 : Below w3.heap.size w3 w10 := ub0 (hB3_9) hb10
        clear hB3_9
        have hB5_10 : Below w5.heap.size w5 w10 := ub0 (hB5_9) hb10
        clear hB5_9
        have hB7_10 : Below w7.heap.size w7 w10 := ub0 (hB7_9) hb10
        clear hB7_9
        have f10_b0_0 := up0 hb10 (by omega) f9_b0_0
        have f10_b0_1 := up0 hb10 (by omega) f9_b0_1
        have f10_b1_0 := up0 hb10 (by omega) f9_b1_0
        have f10_b1_1 := up0 hb10 (by omega) f9_b1_1
        have f10_b2_0 := up0 hb10 (by omega) f9_b2_0
        have f10_b2_1 := up0 hb10 (by omega) f9_b2_1
        have f10_b3_0 := up0 hb10 (by omega) f9_b3_0
        have f10_b3_1 := up0 hb10 (by omega) f9_b3_1
        have f10_b4_0 := up0 hb10 (by omega) f9_b4_0
        have f10_b4_1 := up0 hb10 (by omega) f9_b4_1
        have f10_b5_0 := up0 hb10 (by omega) f9_b5_0
        have f10_b5_1 := up0 hb10 (by omega) f9_b5_1
        have hB10 : Below w.heap.size w w10 := ub0 (hB9) hb10
        clear hb10 hB9 f9_b0_0 f9_b0_1 f9_b1_0 f9_b1_1 f9_b2_0 f9_b2_1 f9_b3_0 f9_b3_1 f9_b4_0 f9_b4_1 f9_b5_0 f9_b5_1
        have l10_0 : w.heap.size < w10.heap.size := by omega
        have l10_1 : w.heap.size + 1 < w10.heap.size := by omega
        have l10_2 : w2.heap.size < w10.heap.size := by omega
        have l10_3 : w4.heap.size < w10.heap.size := by omega
        have l10_4 : w6.heap.size < w10.heap.size := by omega
        have l10_5 : w8.heap.size < w10.heap.size := by omega
        clear l9_0 l9_1 l9_2 l9_3 l9_4 l9_5
        have hcP := fun W hx => copy_39 0 A5 q c5 P W hx HQ.out hn5 (by omega)
        go_wp2_with fail
        refine (hcP _ (hP5.below (Below.refl _ _) (Nat.le_refl _))).mono ?_
        rintro e w11 ⟨A6, c6, rfl, hc6, hm6, hy6, hb11⟩
        replace hy6 := hy6.mono (Nat.zero_le _)
        have hz11 := hb11.size
        (try simp only [World.size_alloc, World.size_setCell, World.size_drew] at hz11)
        have hB1_11 : Below w1.heap.size w1 w11 := ub0 (hB1_10) hb11
        clear hB1_10
        have hB3_11 : Below w3.heap.size w3 w11 := ub0 (hB3_10) hb11
        clear hB3_10
        have hB5_11 : Below w5.heap.size w5 w11 := ub0 (hB5_10) hb11
        clear hB5_10
        have hB7_11 : Below w7.heap.size w7 w11 := ub0 (hB7_10) hb11
        clear hB7_10
        have hB10_11 : Below w10.heap.size w10 w11 := ub0 (Below.refl _ _) hb11
        have f11_b0_0 := up0 hb11 (by omega) f10_b0_0
        have f11_b0_1 := up0 hb11 (by omega) f10_b0_1
        have f11_b1_0 := up0 hb11 (by omega) f10_b1_0
        have f11_b1_1 := up0 hb11 (by omega) f10_b1_1
        have f11_b2_0 := up0 hb11 (by omega) f10_b2_0
        have f11_b2_1 := up0 hb11 (by omega) f10_b2_1
        have f11_b3_0 := up0 hb11 (by omega) f10_b3_0
        have f11_b3_1 := up0 hb11 (by omega) f10_b3_1
        have f11_b4_0 := up0 hb11 (by omega) f10_b4_0
        have f11_b4_1 := up0 hb11 (by omega) f10_b4_1
        have f11_b5_0 := up0 hb11 (by omega) f10_b5_0
        have f11_b5_1 := up0 hb11 (by omega) f10_b5_1
        have hB11 : Below w.heap.size w w11 := ub0 (hB10) hb11
        clear hb11 hB10 f10_b0_0 f10_b0_1 f10_b1_0 f10_b1_1 f10_b2_0 f10_b2_1 f10_b3_0 f10_b3_1 f10_b4_0 f10_b4_1 f10_b5_0 f10_b5_1
        have l11_0 : w.heap.size < w11.heap.size := by omega
        have l11_1 : w.heap.size + 1 < w11.heap.size := by omega
        have l11_2 : w2.heap.size < w11.heap.size := by omega
        have l11_3 : w4.heap.size < w11.heap.size := by omega
        have l11_4 : w6.heap.size < w11.heap.size := by omega
        have l11_5 : w8.heap.size < w11.heap.size := by omega
        clear l10_0 l10_1 l10_2 l10_3 l10_4 l10_5
        go_wp2_with fail
        refine (hCk _ _ _ (hy6.below (Below.refl _ _) (Nat.le_refl _))).mono ?_
        rintro e w12 ⟨rfl, hb12⟩
        have hz12 := hb12.size
        (try simp only [World.size_alloc, World.size_setCell, World.size_drew] at hz12)
        have hB1_12 : Below w1.heap.size w1 w12 := ub0 (hB1_11) hb12
        clear hB1_11
        have hB3_12 : Below w3.heap.size w3 w12 := ub0 (hB3_11) hb12
        clear hB3_11
        have hB5_12 : Below w5.heap.size w5 w12 := ub0 (hB5_11) hb12
        clear hB5_11
        have hB7_12 : Below w7.heap.size w7 w12 := ub0 (hB7_11) hb12
        clear hB7_11
        have hB10_12 : Below w10.heap.size w10 w12 := ub0 (hB10_11) hb12
        clear hB10_11
        have hB11_12 : Below w11.heap.size w11 w12 := ub0 (Below.refl _ _) hb12
        have f12_b0_0 := up0 hb12 (by omega) f11_b0_0
        have f12_b0_1 := up0 hb12 (by omega) f11_b0_1
        have f12_b1_0 := up0 hb12 (by omega) f11_b1_0
        have f12_b1_1 := up0 hb12 (by omega) f11_b1_1
        have f12_b2_0 := up0 hb12 (by omega) f11_b2_0
        have f12_b2_1 := up0 hb12 (by omega) f11_b2_1
        have f12_b3_0 := up0 hb12 (by omega) f11_b3_0
        have f12_b3_1 := up0 hb12 (by omega) f11_b3_1
        have f12_b4_0 := up0 hb12 (by omega) f11_b4_0
        have f12_b4_1 := up0 hb12 (by omega) f11_b4_1
        have f12_b5_0 := up0 hb12 (by omega) f11_b5_0
        have f12_b5_1 := up0 hb12 (by omega) f11_b5_1
        have hB12 : Below w.heap.size w w12 := ub0 (hB11) hb12
        clear hb12 hB11 f11_b0_0 f11_b0_1 f11_b1_0 f11_b1_1 f11_b2_0 f11_b2_1 f11_b3_0 f11_b3_1 f11_b4_0 f11_b4_1 f11_b5_0 f11_b5_1
        have l12_0 : w.heap.size < w12.heap.size := by omega
        have l12_1 : w.heap.size + 1 < w12.heap.size := by omega
        have l12_2 : w2.heap.size < w12.heap.size := by omega
        have l12_3 : w4.heap.size < w12.heap.size := by omega
        have l12_4 : w6.heap.size < w12.heap.size := by omega
        have l12_5 : w8.heap.size < w12.heap.size := by omega
        clear l11_0 l11_1 l11_2 l11_3 l11_4 l11_5
        by_cases hd : v1 - v0 = 0
        · skip
          have hw1 : IntKind.i64.wrap (v1 - v0) = 0 := by rw [IntKind.wrap_i64]; omega
          have hw2 : wrap64 (v1 - v0) = 0 := by rw [hd]; exact IntWalk.wrap64_in _ ⟨by omega, by omega⟩
          go_wp2_with fail
          refine (i1 _).mono ?_
          rintro e w13 ⟨rfl, hb13⟩
          have hz13 := hb13.size
          (try simp only [World.size_alloc, World.size_setCell, World.size_drew] at hz13)
          have hB1_13 : Below w1.heap.size w1 w13 := ub0 (hB1_12) hb13
          clear hB1_12
          have hB3_13 : Below w3.heap.size w3 w13 := ub0 (hB3_12) hb13
          clear hB3_12
          have hB5_13 : Below w5.heap.size w5 w13 := ub0 (hB5_12) hb13
          clear hB5_12
          have hB7_13 : Below w7.heap.size w7 w13 := ub0 (hB7_12) hb13
          clear hB7_12
          have hB10_13 : Below w10.heap.size w10 w13 := ub0 (hB10_12) hb13
          clear hB10_12
          have hB11_13 : Below w11.heap.size w11 w13 := ub0 (hB11_12) hb13
          clear hB11_12
          have f13_b0_0 := up0 hb13 (by omega) f12_b0_0
          have f13_b0_1 := up0 hb13 (by omega) f12_b0_1
          have f13_b1_0 := up0 hb13 (by omega) f12_b1_0
          have f13_b1_1 := up0 hb13 (by omega) f12_b1_1
          have f13_b2_0 := up0 hb13 (by omega) f12_b2_0
          have f13_b2_1 := up0 hb13 (by omega) f12_b2_1
          have f13_b3_0 := up0 hb13 (by omega) f12_b3_0
          have f13_b3_1 := up0 hb13 (by omega) f12_b3_1
          have f13_b4_0 := up0 hb13 (by omega) f12_b4_0
          have f13_b4_1 := up0 hb13 (by omega) f12_b4_1
          have f13_b5_0 := up0 hb13 (by omega) f12_b5_0
          have f13_b5_1 := up0 hb13 (by omega) f12_b5_1
          have hB13 : Below w.heap.size w w13 := ub0 (hB12) hb13
          clear hb13 hB12 f12_b0_0 f12_b0_1 f12_b1_0 f12_b1_1 f12_b2_0 f12_b2_1 f12_b3_0 f12_b3_1 f12_b4_0 f12_b4_1 f12_b5_0 f12_b5_1
          have l13_0 : w.heap.size < w13.heap.size := by omega
          have l13_1 : w.heap.size + 1 < w13.heap.size := by omega
          have l13_2 : w2.heap.size < w13.heap.size := by omega
          have l13_3 : w4.heap.size < w13.heap.size := by omega
          have l13_4 : w6.heap.size < w13.heap.size := by omega
          have l13_5 : w8.heap.size < w13.heap.size := by omega
          clear l12_0 l12_1 l12_2 l12_3 l12_4 l12_5
          go_wp2_with fail
          refine (i2 _).mono ?_
          rintro e w14 ⟨rfl, hb14⟩
          have hz14 := hb14.size
          (try simp only [World.size_alloc, World.size_setCell, World.size_drew] at hz14)
          have hB1_14 : Below w1.heap.size w1 w14 := ub0 (hB1_13) hb14
          clear hB1_13
          have hB3_14 : Below w3.heap.size w3 w14 := ub0 (hB3_13) hb14
          clear hB3_13
          have hB5_14 : Below w5.heap.size w5 w14 := ub0 (hB5_13) hb14
          clear hB5_13
          have hB7_14 : Below w7.heap.size w7 w14 := ub0 (hB7_13) hb14
          clear hB7_13
          have hB10_14 : Below w10.heap.size w10 w14 := ub0 (hB10_13) hb14
          clear hB10_13
          have hB11_14 : Below w11.heap.size w11 w14 := ub0 (hB11_13) hb14
          clear hB11_13
          have f14_b0_0 := up0 hb14 (by omega) f13_b0_0
          have f14_b0_1 := up0 hb14 (by omega) f13_b0_1
          have f14_b1_0 := up0 hb14 (by omega) f13_b1_0
          have f14_b1_1 := up0 hb14 (by omega) f13_b1_1
          have f14_b2_0 := up0 hb14 (by omega) f13_b2_0
          have f14_b2_1 := up0 hb14 (by omega) f13_b2_1
          have f14_b3_0 := up0 hb14 (by omega) f13_b3_0
          have f14_b3_1 := up0 hb14 (by omega) f13_b3_1
          have f14_b4_0 := up0 hb14 (by omega) f13_b4_0
          have f14_b4_1 := up0 hb14 (by omega) f13_b4_1
          have f14_b5_0 := up0 hb14 (by omega) f13_b5_0
          have f14_b5_1 := up0 hb14 (by omega) f13_b5_1
          have hB14 : Below w.heap.size w w14 := ub0 (hB13) hb14
          clear hb14 hB13 f13_b0_0 f13_b0_1 f13_b1_0 f13_b1_1 f13_b2_0 f13_b2_1 f13_b3_0 f13_b3_1 f13_b4_0 f13_b4_1 f13_b5_0 f13_b5_1
          have l14_0 : w.heap.size < w14.heap.size := by omega
          have l14_1 : w.heap.size + 1 < w14.heap.size := by omega
          have l14_2 : w2.heap.size < w14.heap.size := by omega
          have l14_3 : w4.heap.size < w14.heap.size := by omega
          have l14_4 : w6.heap.size < w14.heap.size := by omega
          have l14_5 : w8.heap.size < w14.heap.size := by omega
          clear l13_0 l13_1 l13_2 l13_3 l13_4 l13_5
          go_wp2_with fail
          obtain ⟨RA, hfx, hlx, hv, hu, hP, hq, hlt, hm⟩ := KEEP.out
          exact rows_B _ t P a b r0 r1 v0 v1 u0 u1 fx lx q RA hfx hlx hv hu hP hq hr hlt h2 h12 m0 m1 hm w w14 hB14 _ _ _ _ g c7 c5 A5 f14_b2_0 f14_b2_1 f14_b3_0 f14_b3_1 f14_b4_0 f14_b4_1 f14_b5_0 f14_b5_1 l14_5 l14_2 l14_3 l14_4 (ht.below (hB1_14) (Nat.le_refl _)) (hP5.below (hB10_14) (Nat.le_refl _))
        · skip
          have hd1 : v1 - v0 = 1 := by omega
          clear hd
          have hd := hd1
          clear hd1
          have hw1 : IntKind.i64.wrap (v1 - v0) = 1 := by rw [IntKind.wrap_i64]; omega
          have hw2 : wrap64 (v1 - v0) = 1 := by rw [hd]; exact IntWalk.wrap64_in _ ⟨by omega, by omega⟩
          go_wp2_with fail
          refine (i1 _).mono ?_
          rintro e w13 ⟨rfl, hb13⟩
          have hz13 := hb13.size
          (try simp only [World.size_alloc, World.size_setCell, World.size_drew] at hz13)
          have hB1_13 : Below w1.heap.size w1 w13 := ub0 (hB1_12) hb13
          clear hB1_12
          have hB3_13 : Below w3.heap.size w3 w13 := ub0 (hB3_12) hb13
          clear hB3_12
          have hB5_13 : Below w5.heap.size w5 w13 := ub0 (hB5_12) hb13
          clear hB5_12
          have hB7_13 : Below w7.heap.size w7 w13 := ub0 (hB7_12) hb13
          clear hB7_12
          have hB10_13 : Below w10.heap.size w10 w13 := ub0 (hB10_12) hb13
          clear hB10_12
          have hB11_13 : Below w11.heap.size w11 w13 := ub0 (hB11_12) hb13
          clear hB11_12
          have f13_b0_0 := up0 hb13 (by omega) f12_b0_0
          have f13_b0_1 := up0 hb13 (by omega) f12_b0_1
          have f13_b1_0 := up0 hb13 (by omega) f12_b1_0
          have f13_b1_1 := up0 hb13 (by omega) f12_b1_1
          have f13_b2_0 := up0 hb13 (by omega) f12_b2_0
          have f13_b2_1 := up0 hb13 (by omega) f12_b2_1
          have f13_b3_0 := up0 hb13 (by omega) f12_b3_0
          have f13_b3_1 := up0 hb13 (by omega) f12_b3_1
          have f13_b4_0 := up0 hb13 (by omega) f12_b4_0
          have f13_b4_1 := up0 hb13 (by omega) f12_b4_1
          have f13_b5_0 := up0 hb13 (by omega) f12_b5_0
          have f13_b5_1 := up0 hb13 (by omega) f12_b5_1
          have hB13 : Below w.heap.size w w13 := ub0 (hB12) hb13
          clear hb13 hB12 f12_b0_0 f12_b0_1 f12_b1_0 f12_b1_1 f12_b2_0 f12_b2_1 f12_b3_0 f12_b3_1 f12_b4_0 f12_b4_1 f12_b5_0 f12_b5_1
          have l13_0 : w.heap.size < w13.heap.size := by omega
          have l13_1 : w.heap.size + 1 < w13.heap.size := by omega
          have l13_2 : w2.heap.size < w13.heap.size := by omega
          have l13_3 : w4.heap.size < w13.heap.size := by omega
          have l13_4 : w6.heap.size < w13.heap.size := by omega
          have l13_5 : w8.heap.size < w13.heap.size := by omega
          clear l12_0 l12_1 l12_2 l12_3 l12_4 l12_5
          go_wp2_with fail
          refine (i2 _).mono ?_
          rintro e w14 ⟨rfl, hb14⟩
          have hz14 := hb14.size
          (try simp only [World.size_alloc, World.size_setCell, World.size_drew] at hz14)
          have hB1_14 : Below w1.heap.size w1 w14 := ub0 (hB1_13) hb14
          clear hB1_13
          have hB3_14 : Below w3.heap.size w3 w14 := ub0 (hB3_13) hb14
          clear hB3_13
          have hB5_14 : Below w5.heap.size w5 w14 := ub0 (hB5_13) hb14
          clear hB5_13
          have hB7_14 : Below w7.heap.size w7 w14 := ub0 (hB7_13) hb14
          clear hB7_13
          have hB10_14 : Below w10.heap.size w10 w14 := ub0 (hB10_13) hb14
          clear hB10_13
          have hB11_14 : Below w11.heap.size w11 w14 := ub0 (hB11_13) hb14
          clear hB11_13
          have f14_b0_0 := up0 hb14 (by omega) f13_b0_0
          have f14_b0_1 := up0 hb14 (by omega) f13_b0_1
          have f14_b1_0 := up0 hb14 (by omega) f13_b1_0
          have f14_b1_1 := up0 hb14 (by omega) f13_b1_1
          have f14_b2_0 := up0 hb14 (by omega) f13_b2_0
          have f14_b2_1 := up0 hb14 (by omega) f13_b2_1
          have f14_b3_0 := up0 hb14 (by omega) f13_b3_0
          have f14_b3_1 := up0 hb14 (by omega) f13_b3_1
          have f14_b4_0 := up0 hb14 (by omega) f13_b4_0
          have f14_b4_1 := up0 hb14 (by omega) f13_b4_1
          have f14_b5_0 := up0 hb14 (by omega) f13_b5_0
          have f14_b5_1 := up0 hb14 (by omega) f13_b5_1
          have hB14 : Below w.heap.size w w14 := ub0 (hB13) hb14
          clear hb14 hB13 f13_b0_0 f13_b0_1 f13_b1_0 f13_b1_1 f13_b2_0 f13_b2_1 f13_b3_0 f13_b3_1 f13_b4_0 f13_b4_1 f13_b5_0 f13_b5_1
          have l14_0 : w.heap.size < w14.heap.size := by omega
          have l14_1 : w.heap.size + 1 < w14.heap.size := by omega
          have l14_2 : w2.heap.size < w14.heap.size := by omega
          have l14_3 : w4.heap.size < w14.heap.size := by omega
          have l14_4 : w6.heap.size < w14.heap.size := by omega
          have l14_5 : w8.heap.size < w14.heap.size := by omega
          clear l13_0 l13_1 l13_2 l13_3 l13_4 l13_5
          go_wp2_with fail
          obtain ⟨RA, hfx, hlx, hv, hu, hP, hq, hlt, hm⟩ := KEEP.out
          exact rows_B _ t P a b r0 r1 v0 v1 u0 u1 fx lx q RA hfx hlx hv hu hP hq hr hlt h2 h12 m0 m1 hm w w14 hB14 _ _ _ _ g c7 c5 A5 f14_b2_0 f14_b2_1 f14_b3_0 f14_b3_1 f14_b4_0 f14_b4_1 f14_b5_0 f14_b5_1 l14_5 l14_2 l14_3 l14_4 (ht.below (hB1_14) (Nat.le_refl _)) (hP5.below (hB10_14) (Nat.le_refl _))

end Go.Proofs.Ytfohdafijfjefaa
