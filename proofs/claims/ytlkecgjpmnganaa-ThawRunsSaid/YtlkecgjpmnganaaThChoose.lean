/- Contracts of Extreme: the better of two, the best kind of an hour. -/
import Derived.Test.YtlkecgjpmnganaaThHour
set_option linter.unusedSimpArgs false
set_option linter.unusedVariables false
namespace Go.Proofs.Ytlkecgjpmnganaa
open Go.RowKit Go.Shelf



/-- which of two is better -/
def betS (most : Bool) (a b : Int) : Bool := if most then decide (b < a) else decide (a < b)
def betF (most : Bool) : FuncId := if most then 70 else 69

theorem bet_any (most : Bool) (a b : Int) (w : World) :
    Calls Try.prog (betF most) #[.int .i16 a, .int .i16 b] w fun e w' => e = .returned (.bool (betS most a b)) ∧ Below w.heap.size w w' := by
  cases most with
  | false =>
    show Calls Try.prog 69 _ _ fun e w' => e = .returned (.bool (decide (a < b))) ∧ _
    go_enter Try.func69, Try.ntmps69
    go_wp2
    go_ret
    exact ⟨rfl, (by (try show Below _ _ _); repeat (first | (with_reducible refine Below.setCell ?_ (by first | omega | (simp <;> omega)) _) | (with_reducible refine Below.alloc ?_ (by first | omega | (simp <;> omega)) _) | (with_reducible refine Below.drew ?_) | (with_reducible exact Below.refl _ _) | (with_reducible refine below_call ?_ (by assumption) (by first | omega | (simp <;> omega))) | (with_reducible refine below_call ?_ (Drew.below (by assumption) _) (by first | omega | (simp <;> omega)))))⟩
  | true =>
    show Calls Try.prog 70 _ _ fun e w' => e = .returned (.bool (decide (b < a))) ∧ _
    go_enter Try.func70, Try.ntmps70
    go_wp2
    go_ret
    exact ⟨rfl, (by (try show Below _ _ _); repeat (first | (with_reducible refine Below.setCell ?_ (by first | omega | (simp <;> omega)) _) | (with_reducible refine Below.alloc ?_ (by first | omega | (simp <;> omega)) _) | (with_reducible refine Below.drew ?_) | (with_reducible exact Below.refl _ _) | (with_reducible refine below_call ?_ (by assumption) (by first | omega | (simp <;> omega))) | (with_reducible refine below_call ?_ (Drew.below (by assumption) _) (by first | omega | (simp <;> omega)))))⟩
theorem bet_enters (most : Bool) : Enters Try.prog (betF most) := by
  cases most
  · exact enters_of Try.func69 (by kernel_rfl) rfl
  · exact enters_of Try.func70 (by kernel_rfl) rfl

/-- a kind taken in -/
def bestF (r : TR) (most : Bool) (V : St → Int) (s : St) (x : Int × Int) (k : Int) : Int × Int :=
  if x.1 = 0 ∨ betS most (V (stepT r s k).1 + (if (stepT r s k).2 then 1 else 0)) x.2 = true then (k, V (stepT r s k).1 + (if (stepT r s k).2 then 1 else 0)) else x
/-- the first best kind of an hour, and what it brings -/
def bestS (r : TR) (most : Bool) (lo hi : Int) (V : St → Int) (s : St) : Int × Int := (kindsT r lo hi).foldl (bestF r most V s) (0, 0)

/-- an array of rests -/
def Rst (r : TR) (W : World) (b o : Nat) (V : St → Int) : Prop := ∀ c i : Nat, stIn r ((c : Int), (i : Int)) → W.cell? ⟨b, o + c * 31 + i, none⟩ = some (.int .i16 (V ((c : Int), (i : Int))))

set_option maxRecDepth 100000 in
set_option maxHeartbeats 2000000 in
theorem choose_any (r : TR) (hr : TROk r) (most : Bool) (V : St → Int) (hV : ∀ s, 0 ≤ V s ∧ V s ≤ 2000) (c i : Nat) (hst : stIn r ((c : Int), (i : Int))) (tl th : Int) (rb ro bb fb : Nat) (w : World) (hrb : rb < w.heap.size) (hbb : bb < w.heap.size) (hfb : fb < w.heap.size) (hR : Rst r w rb ro V)
    (q0 : w.cell? ⟨bb, 0, none⟩ = some (.int .i64 r.frost))
    (q1 : w.cell? ⟨bb, 1, none⟩ = some (.int .i64 r.thaw))
    (q2 : w.cell? ⟨bb, 2, none⟩ = some (.int .i64 r.gain))
    (q3 : w.cell? ⟨bb, 3, none⟩ = some (.int .i64 r.full))
    (q4 : w.cell? ⟨bb, 4, none⟩ = some (.int .i64 r.ice))
    (q5 : w.cell? ⟨bb, 5, none⟩ = some (.int .i64 r.most))
    (q6 : w.cell? ⟨bb, 6, none⟩ = some (.int .i64 r.melt))
    (q7 : w.cell? ⟨bb, 7, none⟩ = some (.int .i64 r.rlow))
    (q8 : w.cell? ⟨bb, 8, none⟩ = some (.int .i64 r.rhigh))
    (q9 : w.cell? ⟨bb, 9, none⟩ = some (.int .i64 r.pull))
    (qf : w.cell? ⟨fb, 0, none⟩ = some (.func (.func (betF most)) #[] #[])) :
    Calls Try.prog 71 #[.agg #[.int .i64 c, .int .i64 i], .agg #[.int .i64 tl, .int .i64 th], .pointer (some ⟨rb, ro, none⟩), .pointer (some ⟨bb, 0, none⟩), .pointer (some ⟨fb, 0, none⟩)] w
      fun e w' => e = .returned (.tuple #[.int .i64 (bestS r most tl th V ((c : Int), (i : Int))).1, .int .i16 (bestS r most tl th V ((c : Int), (i : Int))).2]) ∧ Below w.heap.size w w' := by
  have eg := bet_enters most
  have hbet := bet_any most
  unfold bestS
  obtain ⟨ks, hks⟩ : ∃ ks, kindsT r tl th = ks := ⟨_, rfl⟩
  have hkm : ∀ k ∈ ks, 1 ≤ k ∧ k ≤ 3 := fun k h => kinds_mem (by rw [hks]; exact h)
  have hkl : ks.length ≤ 3 := by rw [← hks]; exact kinds_le r tl th
  have h1 := fun W => kinds_any r tl th W
  have hstp := fun c i k h1 h2 W => step_any r c i k h1 h2 hr W
  rw [hks] at h1 ⊢
  rw [show rV r = .agg #[.int .i64 r.frost, .int .i64 r.thaw, .int .i64 r.gain, .int .i64 r.full, .int .i64 r.ice, .int .i64 r.most, .int .i64 r.melt, .int .i64 r.rlow, .int .i64 r.rhigh, .int .i64 r.pull] from rfl] at h1 hstp
  unfold Enters at eg
  generalize betF most = g at qf eg hbet
  have HK := Lib.hid hkm
  have HS := Lib.hid hst
  have HV := Lib.hid hV
  have HR := Lib.hid hR
  have hR0 := hr.u2
  have hM0 := hr.m2
  clear hks hkm hst hV hR
  go_enter Try.func71, Try.ntmps71
  go_wp2_with fail
  refine Calls.mono (h1 _) ?_
  rintro e w1 ⟨A, cc, rfl, k1, k2, k3, hE, hb1⟩
  have hz1 := hb1.size
  simp only [World.size_alloc] at hz1
  replace q0 := (hb1.cell (p := ⟨bb, 0, none⟩) (by show bb < _; simp; omega)).trans (al_cell _ (al_cell _ q0))
  replace q1 := (hb1.cell (p := ⟨bb, 1, none⟩) (by show bb < _; simp; omega)).trans (al_cell _ (al_cell _ q1))
  replace q2 := (hb1.cell (p := ⟨bb, 2, none⟩) (by show bb < _; simp; omega)).trans (al_cell _ (al_cell _ q2))
  replace q3 := (hb1.cell (p := ⟨bb, 3, none⟩) (by show bb < _; simp; omega)).trans (al_cell _ (al_cell _ q3))
  replace q4 := (hb1.cell (p := ⟨bb, 4, none⟩) (by show bb < _; simp; omega)).trans (al_cell _ (al_cell _ q4))
  replace q5 := (hb1.cell (p := ⟨bb, 5, none⟩) (by show bb < _; simp; omega)).trans (al_cell _ (al_cell _ q5))
  replace q6 := (hb1.cell (p := ⟨bb, 6, none⟩) (by show bb < _; simp; omega)).trans (al_cell _ (al_cell _ q6))
  replace q7 := (hb1.cell (p := ⟨bb, 7, none⟩) (by show bb < _; simp; omega)).trans (al_cell _ (al_cell _ q7))
  replace q8 := (hb1.cell (p := ⟨bb, 8, none⟩) (by show bb < _; simp; omega)).trans (al_cell _ (al_cell _ q8))
  replace q9 := (hb1.cell (p := ⟨bb, 9, none⟩) (by show bb < _; simp; omega)).trans (al_cell _ (al_cell _ q9))
  replace qf := (hb1.cell (p := ⟨fb, 0, none⟩) (by show fb < _; simp; omega)).trans (al_cell _ (al_cell _ qf))
  have s0 := (hb1.cell (p := ⟨w.heap.size, 0, none⟩) (by show w.heap.size < _; simp; omega)).trans (show _ = some (.int .i64 (c : Int)) by simp [go_sem])
  have s1 := (hb1.cell (p := ⟨w.heap.size, 1, none⟩) (by show w.heap.size < _; simp; omega)).trans (show _ = some (.int .i64 (i : Int)) by simp [go_sem])
  have hR1 : Aside (Rst r w1 rb ro V) := fun c i h => (hb1.cell (p := ⟨rb, _, none⟩) (by show rb < _; simp; omega)).trans (al_cell _ (al_cell _ (HR.out c i h)))
  have hB1 : Below w.heap.size w w1 := (by (try show Below _ _ _); repeat (first | (with_reducible refine Below.setCell ?_ (by first | omega | (simp <;> omega)) _) | (with_reducible refine Below.alloc ?_ (by first | omega | (simp <;> omega)) _) | (with_reducible refine Below.drew ?_) | (with_reducible exact Below.refl _ _) | (with_reducible refine below_call ?_ (by assumption) (by first | omega | (simp <;> omega))) | (with_reducible refine below_call ?_ (Drew.below (by assumption) _) (by first | omega | (simp <;> omega)))))
  have hl0 : w.heap.size < w1.heap.size := by omega
  have hl1 : bb < w1.heap.size := by omega
  have hl2 : fb < w1.heap.size := by omega
  have hl3 : rb < w1.heap.size := by omega
  have HQ := Lib.hid (And.intro q0 (And.intro q1 (And.intro q2 (And.intro q3 (And.intro q4 (And.intro q5 (And.intro q6 (And.intro q7 (And.intro q8 (And.intro q9 (And.intro qf (And.intro s0 s1))))))))))))
  have HE := Lib.hid hE
  clear q0 q1 q2 q3 q4 q5 q6 q7 q8 q9 qf s0 s1 hE hb1
  obtain ⟨m, hm⟩ : ∃ m, ks.length = m := ⟨_, rfl⟩
  rw [hm] at k1 k3 hkl ⊢
  have Hm := Lib.hid hm
  clear hm
  go_wp2_with fail
  go_loopg [8, 9, 19] (m) (fun gg b v ii wr => ∃ (k : Nat) (x : Int × Int), k ≤ m ∧ m - k ≤ gg ∧ ii = .int .i64 k ∧ b = .int .i64 x.1 ∧ v = .int .i16 x.2 ∧ Aside ((ks.take k).foldl (bestF r most V ((c : Int), (i : Int))) (0, 0) = x) ∧ Aside (Below w1.heap.size w1 wr))
  case atStart => exact ⟨0, (0, 0), Nat.zero_le _, Nat.le_refl _, rfl, rfl, rfl, rfl, Below.refl _ _⟩
  case round =>
    obtain ⟨k, ⟨x, y⟩, hk, hg, rfl, rfl, rfl, hx, hB⟩ := hrel
    obtain ⟨q0, q1, q2, q3, q4, q5, q6, q7, q8, q9, qf, s0, s1⟩ := HQ.out
    have hbs := hB.out.size
    by_cases hlt : k < m
    · obtain ⟨b5, o5, hA, hlo5, hlb, hcs⟩ := HE.out (by have := Hm.out; omega)
      subst hA
      have hkl2 : k < ks.length := by have := Hm.out; omega
      have e0 := (hB.out.cell (p := ⟨b5, o5 + k, none⟩) hlb).trans (hcs k hkl2)
      replace q0 := (hB.out.cell hl1).trans q0
      replace q1 := (hB.out.cell hl1).trans q1
      replace q2 := (hB.out.cell hl1).trans q2
      replace q3 := (hB.out.cell hl1).trans q3
      replace q4 := (hB.out.cell hl1).trans q4
      replace q5 := (hB.out.cell hl1).trans q5
      replace q6 := (hB.out.cell hl1).trans q6
      replace q7 := (hB.out.cell hl1).trans q7
      replace q8 := (hB.out.cell hl1).trans q8
      replace q9 := (hB.out.cell hl1).trans q9
      replace qf := (hB.out.cell hl2).trans qf
      replace s0 := (hB.out.cell hl0).trans s0
      replace s1 := (hB.out.cell hl0).trans s1
      have hsn : (ks.take (k + 1)).foldl (bestF r most V ((c : Int), (i : Int))) (0, 0) = bestF r most V ((c : Int), (i : Int)) (x, y) (ks[k]?.getD 0) := by
        rw [List.take_succ_eq_append_getElem hkl2, List.foldl_append, hx.out, List.getElem?_eq_getElem hkl2]; rfl
      have hkr := HK.out (ks[k]?.getD 0) (by rw [List.getElem?_eq_getElem hkl2]; exact List.getElem_mem _)
      generalize ks[k]?.getD 0 = kk at e0 hsn hkr
      have hst2 := HS.out
      have hstep := hstp c i kk hkr hst2
      have hsi := stepT_in hr hst2 (k := kk)
      rw [show bestF r most V ((c : Int), (i : Int)) (x, y) kk = if x = 0 ∨ betS most (V (stepT r ((c : Int), (i : Int)) kk).1 + (if (stepT r ((c : Int), (i : Int)) kk).2 then 1 else 0)) y = true then (kk, V (stepT r ((c : Int), (i : Int)) kk).1 + (if (stepT r ((c : Int), (i : Int)) kk).2 then 1 else 0)) else (x, y) from rfl] at hsn
      rcases hsr : stepT r ((c : Int), (i : Int)) kk with ⟨⟨x2, y2⟩, ran⟩
      rw [hsr] at hstep hsi hsn
      have hsi' := hsi
      obtain ⟨z1, z2, z3, z4⟩ := hsi
      simp only at z1 z2 z3 z4 hsn
      obtain ⟨x2, rfl⟩ := Int.eq_ofNat_of_zero_le z1
      obtain ⟨y2, rfl⟩ := Int.eq_ofNat_of_zero_le z3
      have hvv := HV.out ((x2 : Int), (y2 : Int))
      have r0 := (hB.out.cell (p := ⟨rb, _, none⟩) hl3).trans (hR1.out x2 y2 hsi')
      generalize V ((x2 : Int), (y2 : Int)) = vv at hvv r0 hsn
      simp only [sV] at hstep
      have Hsn := Lib.hid hsn
      clear hsn hcs hsr hsi'
      have hltz : (k : Int) < (m : Int) := by omega
      have hi0 : (0 : Int) ≤ (k : Int) := Int.natCast_nonneg _
      have t0 : (0 : Int) ≤ (x2 : Int) := Int.natCast_nonneg _
      have t1 : (x2 : Int) < 61 := by omega
      have t2 : (0 : Int) ≤ (y2 : Int) := Int.natCast_nonneg _
      have t3 : (y2 : Int) < 31 := by omega
      have hlbr : b5 < wr.heap.size := by omega
      have hl1' : bb < wr.heap.size := by omega
      have hl2' : fb < wr.heap.size := by omega
      have hl3' : rb < wr.heap.size := by omega
      have hl0' : w.heap.size < wr.heap.size := by omega
      go_wp2_with fail
      refine Calls.mono (hstep _) ?_
      rintro e w3 ⟨rfl, hb3⟩
      have hz3 := hb3.size
      replace r0 := (hb3.cell (p := ⟨rb, _, none⟩) hl3').trans r0
      replace qf := (hb3.cell (p := ⟨fb, _, none⟩) hl2').trans qf
      have hl3'' : rb < w3.heap.size := by omega
      have hl2'' : fb < w3.heap.size := by omega
      go_wp2_with fail
      go_quiet (fail)
      generalize hwq : World.drewN (w3.alloc _) _ = wq
      have hdq : Drew (w3.alloc (.cells #[.int .i64 (x2 : Int), .int .i64 (y2 : Int)] 27)) wq := ⟨_, hwq.symm⟩
      have hbq : Below w3.heap.size w3 wq := ((Below.refl w3.heap.size w3).alloc (Nat.le_refl _) _).trans (hdq.below _)
      have hzq := hbq.size
      clear hwq hdq
      replace qf := (hbq.cell (p := ⟨fb, _, none⟩) hl2'').trans qf
      have w16 : IntKind.i16.wrap (vv + 1) = vv + 1 := by rw [IntKind.wrap]; simp [IntKind.signed, IntKind.bits]; omega
      have hB4 : Below w1.heap.size w1 wq := hB.out.trans ((hb3.mono (by omega)).trans (hbq.mono (by omega)))
      cases ran with
      | false =>
        by_cases hx0 : x = 0
        · subst hx0
          go_wp2
          go_roundg (m - (k + 1))
          case measure => omega
          case rel => exact ⟨k + 1, (kk, vv), by omega, by omega, by go_num, rfl, rfl, (show Aside _ from by have := Hsn.out; simp only [Bool.false_eq_true, if_true, if_false, Int.add_zero] at this; rw [show _ = _ from this]; exact if_pos (Or.inl trivial)), hB4⟩
        · have hx0' : (x == 0) = false := by simpa using hx0
          have hbt := hbet vv y
          cases hq : betS most vv y with
          | false =>
            rw [hq] at hbt
            go_wp2_with fail
            refine Calls.mono (hbt _) ?_
            rintro e w5 ⟨rfl, hb5⟩
            go_wp2
            go_roundg (m - (k + 1))
            case measure => omega
            case rel => exact ⟨k + 1, (x, y), by omega, by omega, by go_num, rfl, rfl, (show Aside _ from by have := Hsn.out; simp only [Bool.false_eq_true, if_true, if_false, Int.add_zero] at this; rw [show _ = _ from this]; exact if_neg (fun h => h.elim hx0 (fun h => by rw [hq] at h; cases h))), hB4.trans (hb5.mono (by omega))⟩
          | true =>
            rw [hq] at hbt
            go_wp2_with fail
            refine Calls.mono (hbt _) ?_
            rintro e w5 ⟨rfl, hb5⟩
            go_wp2
            go_roundg (m - (k + 1))
            case measure => omega
            case rel => exact ⟨k + 1, (kk, vv), by omega, by omega, by go_num, rfl, rfl, (show Aside _ from by have := Hsn.out; simp only [Bool.false_eq_true, if_true, if_false, Int.add_zero] at this; rw [show _ = _ from this]; exact (if_pos (Or.inr hq))), hB4.trans (hb5.mono (by omega))⟩
      | true =>
        by_cases hx0 : x = 0
        · subst hx0
          go_wp2
          go_roundg (m - (k + 1))
          case measure => omega
          case rel => exact ⟨k + 1, (kk, (vv + 1)), by omega, by omega, by go_num, rfl, rfl, (show Aside _ from by have := Hsn.out; simp only [Bool.false_eq_true, if_true, if_false, Int.add_zero] at this; rw [show _ = _ from this]; exact if_pos (Or.inl trivial)), hB4⟩
        · have hx0' : (x == 0) = false := by simpa using hx0
          have hbt := hbet (vv + 1) y
          cases hq : betS most (vv + 1) y with
          | false =>
            rw [hq] at hbt
            go_wp2_with fail
            refine Calls.mono (hbt _) ?_
            rintro e w5 ⟨rfl, hb5⟩
            go_wp2
            go_roundg (m - (k + 1))
            case measure => omega
            case rel => exact ⟨k + 1, (x, y), by omega, by omega, by go_num, rfl, rfl, (show Aside _ from by have := Hsn.out; simp only [Bool.false_eq_true, if_true, if_false, Int.add_zero] at this; rw [show _ = _ from this]; exact if_neg (fun h => h.elim hx0 (fun h => by rw [hq] at h; cases h))), hB4.trans (hb5.mono (by omega))⟩
          | true =>
            rw [hq] at hbt
            go_wp2_with fail
            refine Calls.mono (hbt _) ?_
            rintro e w5 ⟨rfl, hb5⟩
            go_wp2
            go_roundg (m - (k + 1))
            case measure => omega
            case rel => exact ⟨k + 1, (kk, (vv + 1)), by omega, by omega, by go_num, rfl, rfl, (show Aside _ from by have := Hsn.out; simp only [Bool.false_eq_true, if_true, if_false, Int.add_zero] at this; rw [show _ = _ from this]; exact (if_pos (Or.inr hq))), hB4.trans (hb5.mono (by omega))⟩
    · have hltz : ¬ (k : Int) < (m : Int) := by omega
      obtain rfl : k = m := by omega
      have hfin := hx.out
      rw [List.take_of_length_le (by have := Hm.out; omega)] at hfin
      have Hfin := Lib.hid hfin
      clear hfin
      go_wp2
      refine bodyPost_ret (v := .tuple #[.int .i64 x, .int .i16 y]) (by simp [results, Try.results71, go_sem]) rfl ⟨by rw [Hfin.out], hB1.trans (hB.out.mono (by omega))⟩


end Go.Proofs.Ytlkecgjpmnganaa
