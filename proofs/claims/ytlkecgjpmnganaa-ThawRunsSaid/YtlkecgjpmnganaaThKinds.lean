/- Contracts of package thaw: what an hour may do; the step of an hour. -/
import Derived.Test.YtlkecgjpmnganaaThB
import Derived.Test.YtlkecgjpmnganaaOwn1
set_option linter.unusedSimpArgs false
set_option linter.unusedVariables false
namespace Go.Proofs.Ytlkecgjpmnganaa
open Go.RowKit Go.Shelf

def rV (r : TR) : Value := .agg #[.int .i64 r.frost, .int .i64 r.thaw, .int .i64 r.gain, .int .i64 r.full, .int .i64 r.ice, .int .i64 r.most, .int .i64 r.melt, .int .i64 r.rlow, .int .i64 r.rhigh, .int .i64 r.pull]

theorem infoKind : (Try.prog.info? 43).map (fun i => (i.zero, i.size, i.bytes)) = some (some (.int .i64 0), 1, 8) := by kernel_rfl

/-- the kinds of the first places -/
def kindsUp (r : TR) (lo hi : Int) (k : Nat) : List Int := (([1, 2, 3] : List Int).take k).filter (canT r lo hi)
theorem kindsUp_le (r : TR) (lo hi : Int) (k : Nat) : (kindsUp r lo hi k).length ≤ 3 := by
  unfold kindsUp
  have h1 := List.length_filter_le (canT r lo hi) (([1, 2, 3] : List Int).take k)
  have h2 : (([1, 2, 3] : List Int).take k).length ≤ 3 := by simp; omega
  omega
theorem kindsUp_succ (r : TR) (lo hi : Int) (k : Nat) (hk : k < 3) : kindsUp r lo hi (k + 1) = if canT r lo hi ((k : Int) + 1) then kindsUp r lo hi k ++ [(k : Int) + 1] else kindsUp r lo hi k := by
  have : k = 0 ∨ k = 1 ∨ k = 2 := by omega
  rcases this with rfl | rfl | rfl
  · simp [kindsUp, List.filter]; cases canT r lo hi 1 <;> rfl
  · simp [kindsUp, List.filter]; cases canT r lo hi 1 <;> cases canT r lo hi 2 <;> rfl
  · simp [kindsUp, List.filter]; cases canT r lo hi 1 <;> cases canT r lo hi 2 <;> cases canT r lo hi 3 <;> rfl

/-- behind kinds -/
def KindsPost (w : World) (xs : List Int) (e : Ending) (w' : World) : Prop := ∃ A c, e = .returned (.slice A xs.length c) ∧ xs.length ≤ c ∧ c ≤ maxLen ∧ (A = none → xs.length = 0 ∧ c = 0) ∧ Els (Value.int .i64) 0 w' w.heap.size A xs ∧ Below w.heap.size w w'

set_option maxHeartbeats 1000000 in
theorem kinds_any (r : TR) (lo hi : Int) (w : World) :
    Calls Try.prog 58 #[rV r, .agg #[.int .i64 lo, .int .i64 hi]] w (KindsPost w (kindsT r lo hi)) := by
  obtain ⟨i5, hi5, hz5, hs5, hb5⟩ := info_parts infoKind
  have hk0 : canT r lo hi 1 = decide (lo < r.frost) := rfl
  have hk1 : canT r lo hi 2 = decide (max lo r.frost ≤ min hi r.thaw) := rfl
  have hk2 : canT r lo hi 3 = decide (r.thaw < hi) := rfl
  have hup := kindsUp_succ r lo hi
  have hle := kindsUp_le r lo hi
  have h30 : kindsT r lo hi = kindsUp r lo hi 3 := rfl
  have h00 : kindsUp r lo hi 0 = [] := rfl
  rw [h30]
  generalize kindsUp r lo hi = U at hup hle h00
  generalize hcan : canT r lo hi = can at hk0 hk1 hk2 hup
  clear h30
  obtain ⟨r0, r1, r2, r3, r4, r5, r6, r7, r8, r9⟩ := r
  simp only at hk0 hk1 hk2
  unfold rV
  clear hcan
  have HU := Lib.hid hup
  have HL := Lib.hid hle
  clear hup hle
  go_enter Try.func58, Try.ntmps58
  go_wp2
  go_loopg [4, 37] (3) (fun gg v4 i wr => ∃ k : Nat, k ≤ 3 ∧ 3 - k ≤ gg ∧ i = .int .i64 k ∧ Aside (Own1 (Value.int .i64) 43 wr (w.heap.size + 3) v4 (U k)) ∧ Aside (Below w.heap.size w wr) ∧ w.heap.size + 3 ≤ wr.heap.size ∧
    Aside (∀ j : Nat, j < 3 → wr.cell? ⟨w.heap.size + 1 + 1, j * 2, none⟩ = some (.int .i64 ((j : Int) + 1)) ∧ wr.cell? ⟨w.heap.size + 1 + 1, j * 2 + 1, none⟩ = some (.bool (can ((j : Int) + 1)))))
  case atStart =>
    refine ⟨0, Nat.zero_le _, Nat.le_refl _, rfl, by rw [h00]; exact Own1.nil _ _ _ _, (by (try show Below _ _ _); repeat (first | (with_reducible refine Below.setCell ?_ (by first | omega | (simp <;> omega)) _) | (with_reducible refine Below.alloc ?_ (by first | omega | (simp <;> omega)) _) | (with_reducible refine Below.drew ?_) | (with_reducible exact Below.refl _ _) | (with_reducible refine below_call ?_ (by assumption) (by first | omega | (simp <;> omega))) | (with_reducible refine below_call ?_ (Drew.below (by assumption) _) (by first | omega | (simp <;> omega))))), by simp, ?_⟩
    intro j hj
    have : j = 0 ∨ j = 1 ∨ j = 2 := by omega
    rcases this with rfl | rfl | rfl
    · constructor <;> simp [go_sem, hk0]
    · constructor <;> simp [go_sem, hk1]
    · constructor <;> simp [go_sem, hk2]
  case round =>
    obtain ⟨k, hk, hg, rfl, hO, hB, hsz, hC⟩ := hrel
    have hC' := hC.out
    by_cases hlt : k < 3
    · obtain ⟨c0, c1⟩ := hC' k hlt
      have hltz : (k : Int) < 3 := by omega
      have hi0 : (0 : Int) ≤ (k : Int) := Int.natCast_nonneg _
      have hsn := HU.out k hlt
      have hlen := HL.out k
      have hbs := hB.out.size
      have hfar : ∀ (j : Nat) (o : Obj), (wr.alloc o).cell? ⟨w.heap.size + 1 + 1, j, none⟩ = wr.cell? ⟨w.heap.size + 1 + 1, j, none⟩ := fun j o => World.cell?_alloc_lt _ _ _ (by show w.heap.size + 1 + 1 < _; omega)
      have hfar2 : ∀ (j : Nat) (o o' : Obj), ((wr.alloc o).alloc o').cell? ⟨w.heap.size + 1 + 1, j, none⟩ = wr.cell? ⟨w.heap.size + 1 + 1, j, none⟩ := fun j o o' => (World.cell?_alloc_lt _ _ _ (by show w.heap.size + 1 + 1 < _; simp; omega)).trans (hfar j o)
      cases hcb : can ((k : Int) + 1) with
      | false =>
        rw [hcb] at c1 hsn
        simp only [Bool.false_eq_true, if_false] at hsn
        have Hsn := Lib.hid hsn
        clear hsn hC'
        go_wp2
        go_roundg (3 - (k + 1))
        case measure => omega
        case rel =>
          refine ⟨k + 1, by omega, by omega, by go_num, by rw [Hsn.out]; exact hO.out.alloc _, (by (try show Below _ _ _); repeat (first | (with_reducible refine Below.setCell ?_ (by first | omega | (simp <;> omega)) _) | (with_reducible refine Below.alloc ?_ (by first | omega | (simp <;> omega)) _) | (with_reducible refine Below.drew ?_) | (with_reducible exact Below.refl _ _) | (with_reducible exact hB.out) | (with_reducible refine below_call ?_ (by assumption) (by first | omega | (simp <;> omega))) | (with_reducible refine below_call ?_ (Drew.below (by assumption) _) (by first | omega | (simp <;> omega))))), by simp; omega, ?_⟩
          intro j hj
          rw [hfar, hfar]
          exact hC.out j hj
      | true =>
        rw [hcb] at c1 hsn
        simp only [if_true] at hsn
        have Hsn := Lib.hid hsn
        clear hsn hC'
        obtain ⟨A4, c4, hv4, -, -, -, -⟩ := hO.out.reads 0
        subst hv4
        have hO2 := (hO.out.alloc (.cells #[.int .i64 ((k : Int) + 1), .bool true] 159)).alloc (.cells #[.int .i64 ((k : Int) + 1)] 43)
        unfold Own1 at hO2
        generalize hal : (U k).length = m at hO2 hlen hO ⊢
        have Hal := Lib.hid hal
        have hne := hO.out.lt
        clear hal
        go_wp2_with (at_builtin; (refine wpList_append_lies _ rfl _ _ _ (by rfl) (w.heap.size + 3) 43 i5 _ 1 8 Try.underlying37 hi5 hz5 hs5 hb5 rfl (by omega) (.slice A4 m c4) m ((U k).map (Value.int .i64)) (by rfl) hO2 ⟨wr.heap.size + 1, 0, none⟩ 1 1 [.int .i64 ((k : Int) + 1)] (by rfl) (by rfl) (news_one (by simp [go_sem])) (by simp [Value.oneCell']) (by omega) (by simp only [maxLen]; omega) (by omega) (by simp; omega) (wr.heap.size + 1 + 1) (by simp) ?_); intro g3 c3 w3 o3 hgrow hat3 hlt3; have k0 : w3.cell? ⟨wr.heap.size, 1, none⟩ = some (.bool true) := (by rw [hgrow.cell_far _ (by simp <;> omega) (fun e => absurd (hne _ e.symm).2 (Nat.lt_irrefl _))]; simp [go_sem]))
        have hbA : Below w.heap.size w w3 := Below.grown ((hB.out.alloc hbs _).alloc (by simp; omega) _) hgrow (by simp; omega) (fun k e => by have := (hne k e).1; omega)
        go_wp2
        go_roundg (3 - (k + 1))
        case measure => omega
        case rel =>
          refine ⟨k + 1, by omega, by omega, by go_num, by rw [Hsn.out]; exact Own1.snoc o3 Hal.out, hbA, by have := hgrow.size; simp at this; omega, ?_⟩
          intro j hj
          rw [hgrow.cell_far _ (by simp; omega) (fun e => by have := (hne _ e.symm).1; simp at this; omega), hgrow.cell_far _ (by simp; omega) (fun e => by have := (hne _ e.symm).1; simp at this; omega)]
          rw [hfar2, hfar2]
          exact hC.out j hj
    · obtain rfl : k = 3 := by omega
      obtain ⟨A4, c4, hv4, e1, e2, e3, e4⟩ := hO.out.reads 0
      subst hv4
      go_wp2
      go_ret
      exact ⟨A4, c4, rfl, e1, e2, e3, e4.mono (by omega), hB.out⟩

set_option maxHeartbeats 1000000 in
theorem step_any (r : TR) (c i k : Int) (hk : 1 ≤ k ∧ k ≤ 3) (h0 : stIn r (c, i)) (hr : TROk r) (w : World) :
    Calls Try.prog 63 #[rV r, .agg #[.int .i64 c, .int .i64 i], .int .i64 k] w fun e w' => e = .returned (.tuple #[sV (stepT r (c, i) k).1, .bool (stepT r (c, i) k).2]) ∧ Below w.heap.size w w' := by
  obtain ⟨a1, a2, a3, a4⟩ := h0
  have g1 := hr.g1; have g2 := hr.g2; have u1 := hr.u1; have u2 := hr.u2; have i1 := hr.i1; have i2 := hr.i2; have m1 := hr.m1; have m2 := hr.m2; have e1 := hr.e1; have e2 := hr.e2
  clear hr
  obtain ⟨r0, r1, r2, r3, r4, r5, r6, r7, r8, r9⟩ := r
  simp only at a1 a2 a3 a4 g1 g2 u1 u2 i1 i2 m1 m2 e1 e2
  unfold rV
  have w1 : wrap64 (c + r2) = c + r2 := IntWalk.wrap64_in _ ⟨by omega, by omega⟩
  have w2 : wrap64 (i + r4) = i + r4 := IntWalk.wrap64_in _ ⟨by omega, by omega⟩
  have w3 : wrap64 (i - r6) = i - r6 := IntWalk.wrap64_in _ ⟨by omega, by omega⟩
  have w4 : wrap64 (c - 1) = c - 1 := IntWalk.wrap64_in _ ⟨by omega, by omega⟩
  by_cases k1 : k = 1
  · subst k1
    have hs : stepT ⟨r0, r1, r2, r3, r4, r5, r6, r7, r8, r9⟩ (c, i) 1 = ((min r3 (c + r2), min r5 (i + r4)), false) := rfl
    rw [hs]
    go_enter Try.func63, Try.ntmps63
    go_wp2
    refine bodyPost_ret (v := .tuple #[.agg #[.int .i64 (min r3 (c + r2)), .int .i64 (min r5 (i + r4))], .bool false]) (by simp [results, Try.results63, go_sem]) rfl ⟨rfl, (by (try show Below _ _ _); repeat (first | (with_reducible refine Below.setCell ?_ (by first | omega | (simp <;> omega)) _) | (with_reducible refine Below.alloc ?_ (by first | omega | (simp <;> omega)) _) | (with_reducible refine Below.drew ?_) | (with_reducible exact Below.refl _ _) | (with_reducible refine below_call ?_ (by assumption) (by first | omega | (simp <;> omega))) | (with_reducible refine below_call ?_ (Drew.below (by assumption) _) (by first | omega | (simp <;> omega)))))⟩
  · by_cases k2 : k = 2
    · subst k2
      have hs : stepT ⟨r0, r1, r2, r3, r4, r5, r6, r7, r8, r9⟩ (c, i) 2 = ((c, i), false) := by simp [stepT]
      rw [hs]
      go_enter Try.func63, Try.ntmps63
      go_wp2
      refine bodyPost_ret (v := .tuple #[.agg #[.int .i64 c, .int .i64 i], .bool false]) (by simp [results, Try.results63, go_sem]) rfl ⟨rfl, (by (try show Below _ _ _); repeat (first | (with_reducible refine Below.setCell ?_ (by first | omega | (simp <;> omega)) _) | (with_reducible refine Below.alloc ?_ (by first | omega | (simp <;> omega)) _) | (with_reducible refine Below.drew ?_) | (with_reducible exact Below.refl _ _) | (with_reducible refine below_call ?_ (by assumption) (by first | omega | (simp <;> omega))) | (with_reducible refine below_call ?_ (Drew.below (by assumption) _) (by first | omega | (simp <;> omega)))))⟩
    · have k3 : k = 3 := by omega
      subst k3
      by_cases hz : c = 0 ∧ i = 0
      · obtain ⟨rfl, rfl⟩ := hz
        have hs : stepT ⟨r0, r1, r2, r3, r4, r5, r6, r7, r8, r9⟩ (0, 0) 3 = ((0, 0), false) := by simp [stepT]
        rw [hs]
        go_enter Try.func63, Try.ntmps63
        go_wp2
        refine bodyPost_ret (v := .tuple #[.agg #[.int .i64 0, .int .i64 0], .bool false]) (by simp [results, Try.results63, go_sem]) rfl ⟨rfl, (by (try show Below _ _ _); repeat (first | (with_reducible refine Below.setCell ?_ (by first | omega | (simp <;> omega)) _) | (with_reducible refine Below.alloc ?_ (by first | omega | (simp <;> omega)) _) | (with_reducible refine Below.drew ?_) | (with_reducible exact Below.refl _ _) | (with_reducible refine below_call ?_ (by assumption) (by first | omega | (simp <;> omega))) | (with_reducible refine below_call ?_ (Drew.below (by assumption) _) (by first | omega | (simp <;> omega)))))⟩
      · have hz2 : ¬ (c = 0 ∧ i = 0) := hz
        by_cases hi : 0 < i
        · have hs : stepT ⟨r0, r1, r2, r3, r4, r5, r6, r7, r8, r9⟩ (c, i) 3 = ((c, max 0 (i - r6)), false) := by simp [stepT, hz, hi]
          rw [hs]
          go_enter Try.func63, Try.ntmps63
          go_wp2
          refine bodyPost_ret (v := .tuple #[.agg #[.int .i64 c, .int .i64 (max 0 (i - r6))], .bool false]) (by simp [results, Try.results63, go_sem]) rfl ⟨rfl, (by (try show Below _ _ _); repeat (first | (with_reducible refine Below.setCell ?_ (by first | omega | (simp <;> omega)) _) | (with_reducible refine Below.alloc ?_ (by first | omega | (simp <;> omega)) _) | (with_reducible refine Below.drew ?_) | (with_reducible exact Below.refl _ _) | (with_reducible refine below_call ?_ (by assumption) (by first | omega | (simp <;> omega))) | (with_reducible refine below_call ?_ (Drew.below (by assumption) _) (by first | omega | (simp <;> omega)))))⟩
        · have hs : stepT ⟨r0, r1, r2, r3, r4, r5, r6, r7, r8, r9⟩ (c, i) 3 = ((c - 1, i), true) := by simp [stepT, hz, hi]
          rw [hs]
          go_enter Try.func63, Try.ntmps63
          go_wp2
          refine bodyPost_ret (v := .tuple #[.agg #[.int .i64 (c - 1), .int .i64 i], .bool true]) (by simp [results, Try.results63, go_sem]) rfl ⟨rfl, (by (try show Below _ _ _); repeat (first | (with_reducible refine Below.setCell ?_ (by first | omega | (simp <;> omega)) _) | (with_reducible refine Below.alloc ?_ (by first | omega | (simp <;> omega)) _) | (with_reducible refine Below.drew ?_) | (with_reducible exact Below.refl _ _) | (with_reducible refine below_call ?_ (by assumption) (by first | omega | (simp <;> omega))) | (with_reducible refine below_call ?_ (Drew.below (by assumption) _) (by first | omega | (simp <;> omega)))))⟩


end Go.Proofs.Ytlkecgjpmnganaa
