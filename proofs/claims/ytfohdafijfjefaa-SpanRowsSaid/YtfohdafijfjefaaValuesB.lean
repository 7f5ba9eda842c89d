/- Contract: span.Values. -/
import Derived.Test.YtfohdafijfjefaaValues
set_option linter.unusedSimpArgs false
set_option linter.unusedVariables false
namespace Go.Proofs.Ytfohdafijfjefaa
open Go.RowKit Go.Shelf
attribute [local go_sem ↓] Go.wp_at_zero Go.wp_at_succ

def valsStep (a out r : R) : R := if btw a.lo a.hi [r.lo] = true then ⟨min out.lo r.hi, max out.hi r.hi⟩ else out
noncomputable def valsF (t : List R) (a : R) (k : Nat) : R := (t.take k).foldl (valsStep a) ⟨min (valS t a.lo).lo (valS t a.hi).lo, max (valS t a.lo).hi (valS t a.hi).hi⟩
theorem valsF_succ (t : List R) (a : R) (k : Nat) (hk : k < t.length) : valsF t a (k + 1) = valsStep a (valsF t a k) (t[k]?.getD R.d) := by
  unfold valsF
  rw [List.take_succ_eq_append_getElem hk, List.foldl_append]
  simp [List.getElem?_eq_getElem hk]
noncomputable def valuesS (t : List R) (a : R) : R × Int := if tableS t = false ∨ okR a = false then (⟨0, 0⟩, 2) else if btw (firstX t) (lastX t) [a.lo, a.hi] = false then (⟨0, 0⟩, 3) else (valsF t a t.length, 0)

structure VlJ (w : World) (a0 a1 : Int) (ba : Nat) (out : R) (wr : World) : Prop where
  below : Below w.heap.size w wr
  far : w.heap.size + 1 < ba
  size : ba < wr.heap.size
  p0 : wr.cell? ⟨w.heap.size, 0, none⟩ = some (.int .i64 a0)
  p1 : wr.cell? ⟨w.heap.size, 1, none⟩ = some (.int .i64 a1)
  r0 : wr.cell? ⟨w.heap.size + 1, 0, none⟩ = some (.int .i64 0)
  r1 : wr.cell? ⟨w.heap.size + 1, 1, none⟩ = some (.int .i64 0)
  rf : wr.frozen? ⟨w.heap.size + 1, 0, none⟩ = false
  rg : wr.frozen? ⟨w.heap.size + 1, 1, none⟩ = false
  o0 : wr.cell? ⟨ba, 0, none⟩ = some (.int .i64 out.lo)
  o1 : wr.cell? ⟨ba, 1, none⟩ = some (.int .i64 out.hi)
  of : wr.frozen? ⟨ba, 0, none⟩ = false
  og : wr.frozen? ⟨ba, 1, none⟩ = false

theorem VlJ.later {w : World} {a0 a1 : Int} {ba : Nat} {out : R} {wr W : World} (h : VlJ w a0 a1 ba out wr) (hb : Below wr.heap.size wr W) : VlJ w a0 a1 ba out W := by
  obtain ⟨h1, h2, h3, p0, p1, r0, r1, rf, rg, o0, o1, of, og⟩ := h
  have hz := hb.size
  have q0 : w.heap.size < wr.heap.size := by omega
  have q1 : w.heap.size + 1 < wr.heap.size := by omega
  exact ⟨below_call h1 hb (by omega), h2, by omega, (hb.cell (p := ⟨w.heap.size, 0, none⟩) q0).trans p0, (hb.cell (p := ⟨w.heap.size, 1, none⟩) q0).trans p1, (hb.cell (p := ⟨w.heap.size + 1, 0, none⟩) q1).trans r0, (hb.cell (p := ⟨w.heap.size + 1, 1, none⟩) q1).trans r1, (hb.frozen (p := ⟨w.heap.size + 1, 0, none⟩) q1).trans rf, (hb.frozen (p := ⟨w.heap.size + 1, 1, none⟩) q1).trans rg, (hb.cell (p := ⟨ba, 0, none⟩) h3).trans o0, (hb.cell (p := ⟨ba, 1, none⟩) h3).trans o1, (hb.frozen (p := ⟨ba, 0, none⟩) h3).trans of, (hb.frozen (p := ⟨ba, 1, none⟩) h3).trans og⟩

set_option maxRecDepth 100000 in
set_option maxHeartbeats 2000000 in
theorem Values_any (lo : Nat) (A : Option Addr) (n c : Nat) (t : List R) (a0 a1 : Int) (w : World) (hx : Ranges w lo A t) (hn : Aside (t.length = n)) (hl : n ≤ maxLen) :
    Calls Try.prog 61 #[.slice A n c, .agg #[.int .i64 a0, .int .i64 a1]] w fun e w' => e = .returned (RE (valuesS t ⟨a0, a1⟩)) ∧ Below w.heap.size w w' := by
  have hT := fun W (h : Below w.heap.size w W) => isTable_any lo A n c t W (hx.below h (Nat.le_refl _)) hn hl
  have hR := fun (A : Option Addr) (W : World) h => isRange_any 0 A 1 1 [⟨a0, a1⟩] W h rfl one_le
  have e0 : [(⟨a0, a1⟩ : R)].all okR = okR ⟨a0, a1⟩ := by simp
  rw [e0] at hR
  clear e0
  unfold valuesS
  cases h0 : tableS t with
  | false =>
    rw [if_pos (.inl rfl)]
    rw [h0] at hT
    clear hx h0
    go_enter Try.func61, Try.ntmps61
    go_wp2_with fail
    refine (hT _ ((by (try show Below _ _ _); repeat (first | (with_reducible refine Below.setCell ?_ (by first | omega | (simp <;> omega)) _) | (with_reducible refine Below.alloc ?_ (by first | omega | (simp <;> omega)) _) | (with_reducible refine Below.drew ?_) | (with_reducible exact Below.refl _ _) | (with_reducible exact Below.refl _ _) | (with_reducible refine below_call ?_ (by assumption) (by first | omega | (simp <;> omega))) | (with_reducible refine below_call ?_ (Drew.below (by assumption) _) (by first | omega | (simp <;> omega))))))).mono ?_
    rintro e w1 ⟨rfl, hb1⟩
    have hz1 := hb1.size
    try simp only [World.size_alloc, World.size_setCell, World.size_drew] at hz1
    have hc1_0 := fun o => hb1.cell (p := ⟨w.heap.size, o, none⟩) (by show w.heap.size < _; first | omega | (simp only [World.size_alloc, World.size_setCell, World.size_drew]; omega))
    have hf1_0 := fun o => hb1.frozen (p := ⟨w.heap.size, o, none⟩) (by show w.heap.size < _; first | omega | (simp only [World.size_alloc, World.size_setCell, World.size_drew]; omega))
    have hz1_0 : w.heap.size < w1.heap.size := by omega
    have hc1_1 := fun o => hb1.cell (p := ⟨w.heap.size + 1, o, none⟩) (by show w.heap.size + 1 < _; first | omega | (simp only [World.size_alloc, World.size_setCell, World.size_drew]; omega))
    have hf1_1 := fun o => hb1.frozen (p := ⟨w.heap.size + 1, o, none⟩) (by show w.heap.size + 1 < _; first | omega | (simp only [World.size_alloc, World.size_setCell, World.size_drew]; omega))
    have hz1_1 : w.heap.size + 1 < w1.heap.size := by omega
    go_wp2
    refine bodyPost_ret (v := .tuple #[.agg #[.int .i64 0, .int .i64 0], .int .i64 2]) (by simp [results, Try.results61, go_sem, cell_set, hc1_0, hc1_1]) rfl ⟨rfl, (by (try show Below _ _ _); repeat (first | (with_reducible refine Below.setCell ?_ (by first | omega | (simp <;> omega)) _) | (with_reducible refine Below.alloc ?_ (by first | omega | (simp <;> omega)) _) | (with_reducible refine Below.drew ?_) | (with_reducible exact Below.refl _ _) | (with_reducible refine below_call ?_ (by assumption) (by first | omega | (simp <;> omega))) | (with_reducible refine below_call ?_ (Drew.below (by assumption) _) (by first | omega | (simp <;> omega)))))⟩
  | true =>
    rw [h0] at hT
    cases h1 : okR ⟨a0, a1⟩ with
    | false =>
      rw [if_pos (.inr rfl)]
      rw [h1] at hR
      clear hx h0 h1
      go_enter Try.func61, Try.ntmps61
      go_wp2_with fail
      refine (hT _ ((by (try show Below _ _ _); repeat (first | (with_reducible refine Below.setCell ?_ (by first | omega | (simp <;> omega)) _) | (with_reducible refine Below.alloc ?_ (by first | omega | (simp <;> omega)) _) | (with_reducible refine Below.drew ?_) | (with_reducible exact Below.refl _ _) | (with_reducible exact Below.refl _ _) | (with_reducible refine below_call ?_ (by assumption) (by first | omega | (simp <;> omega))) | (with_reducible refine below_call ?_ (Drew.below (by assumption) _) (by first | omega | (simp <;> omega))))))).mono ?_
      rintro e w1 ⟨rfl, hb1⟩
      have hz1 := hb1.size
      try simp only [World.size_alloc, World.size_setCell, World.size_drew] at hz1
      have hc1_0 := fun o => hb1.cell (p := ⟨w.heap.size, o, none⟩) (by show w.heap.size < _; first | omega | (simp only [World.size_alloc, World.size_setCell, World.size_drew]; omega))
      have hf1_0 := fun o => hb1.frozen (p := ⟨w.heap.size, o, none⟩) (by show w.heap.size < _; first | omega | (simp only [World.size_alloc, World.size_setCell, World.size_drew]; omega))
      have hz1_0 : w.heap.size < w1.heap.size := by omega
      have hc1_1 := fun o => hb1.cell (p := ⟨w.heap.size + 1, o, none⟩) (by show w.heap.size + 1 < _; first | omega | (simp only [World.size_alloc, World.size_setCell, World.size_drew]; omega))
      have hf1_1 := fun o => hb1.frozen (p := ⟨w.heap.size + 1, o, none⟩) (by show w.heap.size + 1 < _; first | omega | (simp only [World.size_alloc, World.size_setCell, World.size_drew]; omega))
      have hz1_1 : w.heap.size + 1 < w1.heap.size := by omega
      go_wp2_with fail
      refine (hR _ _ (Elems.of1 (by simp [go_sem]) (by simp [go_sem]) (by simp))).mono ?_
      rintro e w2 ⟨rfl, hb2⟩
      have hz2 := hb2.size
      try simp only [World.size_alloc, World.size_setCell, World.size_drew] at hz2
      have hc2_0 := fun o => hb2.cell (p := ⟨w.heap.size, o, none⟩) (by show w.heap.size < _; first | omega | (simp only [World.size_alloc, World.size_setCell, World.size_drew]; omega))
      have hf2_0 := fun o => hb2.frozen (p := ⟨w.heap.size, o, none⟩) (by show w.heap.size < _; first | omega | (simp only [World.size_alloc, World.size_setCell, World.size_drew]; omega))
      have hz2_0 : w.heap.size < w2.heap.size := by omega
      have hc2_1 := fun o => hb2.cell (p := ⟨w.heap.size + 1, o, none⟩) (by show w.heap.size + 1 < _; first | omega | (simp only [World.size_alloc, World.size_setCell, World.size_drew]; omega))
      have hf2_1 := fun o => hb2.frozen (p := ⟨w.heap.size + 1, o, none⟩) (by show w.heap.size + 1 < _; first | omega | (simp only [World.size_alloc, World.size_setCell, World.size_drew]; omega))
      have hz2_1 : w.heap.size + 1 < w2.heap.size := by omega
      go_wp2
      refine bodyPost_ret (v := .tuple #[.agg #[.int .i64 0, .int .i64 0], .int .i64 2]) (by simp [results, Try.results61, go_sem, cell_set, hc1_0, hc1_1, hc2_0, hc2_1, hz1_0, hz1_1]) rfl ⟨rfl, (by (try show Below _ _ _); repeat (first | (with_reducible refine Below.setCell ?_ (by first | omega | (simp <;> omega)) _) | (with_reducible refine Below.alloc ?_ (by first | omega | (simp <;> omega)) _) | (with_reducible refine Below.drew ?_) | (with_reducible exact Below.refl _ _) | (with_reducible refine below_call ?_ (by assumption) (by first | omega | (simp <;> omega))) | (with_reducible refine below_call ?_ (Drew.below (by assumption) _) (by first | omega | (simp <;> omega)))))⟩
    | true =>
      rw [if_neg (by simp)]
      rw [h1] at hR
      have hE := fun W (h : Below w.heap.size w W) => ends_val lo A n c t W (hx.below h (Nat.le_refl _)) hn h0
      have hI := fun (A : Option Addr) (W : World) h => span_within (firstX t) (lastX t) 0 A 2 2 [a0, a1] W h rfl two_le
      simp only
      cases h2 : btw (firstX t) (lastX t) [a0, a1] with
      | false =>
        rw [if_pos rfl]
        rw [h2] at hI
        clear hx h0 h1 h2
        go_enter Try.func61, Try.ntmps61
        go_wp2_with fail
        refine (hT _ ((by (try show Below _ _ _); repeat (first | (with_reducible refine Below.setCell ?_ (by first | omega | (simp <;> omega)) _) | (with_reducible refine Below.alloc ?_ (by first | omega | (simp <;> omega)) _) | (with_reducible refine Below.drew ?_) | (with_reducible exact Below.refl _ _) | (with_reducible exact Below.refl _ _) | (with_reducible refine below_call ?_ (by assumption) (by first | omega | (simp <;> omega))) | (with_reducible refine below_call ?_ (Drew.below (by assumption) _) (by first | omega | (simp <;> omega))))))).mono ?_
        rintro e w1 ⟨rfl, hb1⟩
        have hz1 := hb1.size
        try simp only [World.size_alloc, World.size_setCell, World.size_drew] at hz1
        have hc1_0 := fun o => hb1.cell (p := ⟨w.heap.size, o, none⟩) (by show w.heap.size < _; first | omega | (simp only [World.size_alloc, World.size_setCell, World.size_drew]; omega))
        have hf1_0 := fun o => hb1.frozen (p := ⟨w.heap.size, o, none⟩) (by show w.heap.size < _; first | omega | (simp only [World.size_alloc, World.size_setCell, World.size_drew]; omega))
        have hz1_0 : w.heap.size < w1.heap.size := by omega
        have hc1_1 := fun o => hb1.cell (p := ⟨w.heap.size + 1, o, none⟩) (by show w.heap.size + 1 < _; first | omega | (simp only [World.size_alloc, World.size_setCell, World.size_drew]; omega))
        have hf1_1 := fun o => hb1.frozen (p := ⟨w.heap.size + 1, o, none⟩) (by show w.heap.size + 1 < _; first | omega | (simp only [World.size_alloc, World.size_setCell, World.size_drew]; omega))
        have hz1_1 : w.heap.size + 1 < w1.heap.size := by omega
        go_wp2_with fail
        refine (hR _ _ (Elems.of1 (by simp [go_sem]) (by simp [go_sem]) (by simp))).mono ?_
        rintro e w2 ⟨rfl, hb2⟩
        have hz2 := hb2.size
        try simp only [World.size_alloc, World.size_setCell, World.size_drew] at hz2
        have hc2_0 := fun o => hb2.cell (p := ⟨w.heap.size, o, none⟩) (by show w.heap.size < _; first | omega | (simp only [World.size_alloc, World.size_setCell, World.size_drew]; omega))
        have hf2_0 := fun o => hb2.frozen (p := ⟨w.heap.size, o, none⟩) (by show w.heap.size < _; first | omega | (simp only [World.size_alloc, World.size_setCell, World.size_drew]; omega))
        have hz2_0 : w.heap.size < w2.heap.size := by omega
        have hc2_1 := fun o => hb2.cell (p := ⟨w.heap.size + 1, o, none⟩) (by show w.heap.size + 1 < _; first | omega | (simp only [World.size_alloc, World.size_setCell, World.size_drew]; omega))
        have hf2_1 := fun o => hb2.frozen (p := ⟨w.heap.size + 1, o, none⟩) (by show w.heap.size + 1 < _; first | omega | (simp only [World.size_alloc, World.size_setCell, World.size_drew]; omega))
        have hz2_1 : w.heap.size + 1 < w2.heap.size := by omega
        go_wp2_with fail
        refine (hE _ ((by (try show Below _ _ _); repeat (first | (with_reducible refine Below.setCell ?_ (by first | omega | (simp <;> omega)) _) | (with_reducible refine Below.alloc ?_ (by first | omega | (simp <;> omega)) _) | (with_reducible refine Below.drew ?_) | (with_reducible exact Below.refl _ _) | (with_reducible exact Below.refl _ _) | (with_reducible refine below_call ?_ (by assumption) (by first | omega | (simp <;> omega))) | (with_reducible refine below_call ?_ (Drew.below (by assumption) _) (by first | omega | (simp <;> omega))))))).mono ?_
        rintro e w3 ⟨rfl, hb3⟩
        have hz3 := hb3.size
        try simp only [World.size_alloc, World.size_setCell, World.size_drew] at hz3
        have hc3_0 := fun o => hb3.cell (p := ⟨w.heap.size, o, none⟩) (by show w.heap.size < _; first | omega | (simp only [World.size_alloc, World.size_setCell, World.size_drew]; omega))
        have hf3_0 := fun o => hb3.frozen (p := ⟨w.heap.size, o, none⟩) (by show w.heap.size < _; first | omega | (simp only [World.size_alloc, World.size_setCell, World.size_drew]; omega))
        have hz3_0 : w.heap.size < w3.heap.size := by omega
        have hc3_1 := fun o => hb3.cell (p := ⟨w.heap.size + 1, o, none⟩) (by show w.heap.size + 1 < _; first | omega | (simp only [World.size_alloc, World.size_setCell, World.size_drew]; omega))
        have hf3_1 := fun o => hb3.frozen (p := ⟨w.heap.size + 1, o, none⟩) (by show w.heap.size + 1 < _; first | omega | (simp only [World.size_alloc, World.size_setCell, World.size_drew]; omega))
        have hz3_1 : w.heap.size + 1 < w3.heap.size := by omega
        go_wp2_with fail
        refine (hI _ _ (Ints.of2 (by simp [go_sem]) (by simp [go_sem]) (by simp))).mono ?_
        rintro e w4 ⟨rfl, hb4⟩
        have hz4 := hb4.size
        try simp only [World.size_alloc, World.size_setCell, World.size_drew] at hz4
        have hc4_0 := fun o => hb4.cell (p := ⟨w.heap.size, o, none⟩) (by show w.heap.size < _; first | omega | (simp only [World.size_alloc, World.size_setCell, World.size_drew]; omega))
        have hf4_0 := fun o => hb4.frozen (p := ⟨w.heap.size, o, none⟩) (by show w.heap.size < _; first | omega | (simp only [World.size_alloc, World.size_setCell, World.size_drew]; omega))
        have hz4_0 : w.heap.size < w4.heap.size := by omega
        have hc4_1 := fun o => hb4.cell (p := ⟨w.heap.size + 1, o, none⟩) (by show w.heap.size + 1 < _; first | omega | (simp only [World.size_alloc, World.size_setCell, World.size_drew]; omega))
        have hf4_1 := fun o => hb4.frozen (p := ⟨w.heap.size + 1, o, none⟩) (by show w.heap.size + 1 < _; first | omega | (simp only [World.size_alloc, World.size_setCell, World.size_drew]; omega))
        have hz4_1 : w.heap.size + 1 < w4.heap.size := by omega
        go_wp2
        refine bodyPost_ret (v := .tuple #[.agg #[.int .i64 0, .int .i64 0], .int .i64 3]) (by simp [results, Try.results61, go_sem, cell_set, hc1_0, hc1_1, hc2_0, hc2_1, hc3_0, hc3_1, hc4_0, hc4_1, hz1_0, hz1_1, hz2_0, hz2_1, hz3_0, hz3_1]) rfl ⟨rfl, (by (try show Below _ _ _); repeat (first | (with_reducible refine Below.setCell ?_ (by first | omega | (simp <;> omega)) _) | (with_reducible refine Below.alloc ?_ (by first | omega | (simp <;> omega)) _) | (with_reducible refine Below.drew ?_) | (with_reducible exact Below.refl _ _) | (with_reducible refine below_call ?_ (by assumption) (by first | omega | (simp <;> omega))) | (with_reducible refine below_call ?_ (Drew.below (by assumption) _) (by first | omega | (simp <;> omega)))))⟩
      | true =>
        rw [if_neg (by decide)]
        have hv0 : valueIn t a0 = true := by unfold valueIn; rw [btw1]; have := (rowsOk_at.btw2' _ _ _ _).1 h2; omega
        have hv1 : valueIn t a1 = true := by unfold valueIn; rw [btw1]; have := (rowsOk_at.btw2' _ _ _ _).1 h2; omega
        have hV := fun W (h : Below w.heap.size w W) => at_val lo A n c t a0 W (hx.below h (Nat.le_refl _)) hn h0 hv0
        have hU := fun W (h : Below w.heap.size w W) => at_val lo A n c t a1 W (hx.below h (Nat.le_refl _)) hn h0 hv1
        have hn60 : n ≤ 60 := by have := ((tableS_iff t).1 h0).2.2; have := hn.out; omega
        have hF0 : valsF t ⟨a0, a1⟩ 0 = ⟨min (valS t a0).lo (valS t a1).lo, max (valS t a0).hi (valS t a1).hi⟩ := rfl
        have HX := Lib.hid hx
        generalize hres : valsF t ⟨a0, a1⟩ t.length = res
        obtain ⟨res0, res1⟩ := res
        have Hres := Lib.hid hres
        rw [h2] at hI
        generalize valS t a0 = v at hV hF0
        generalize valS t a1 = u at hU hF0
        obtain ⟨v0, v1⟩ := v
        obtain ⟨u0, u1⟩ := u
        simp only at hV hU hF0
        have HF0 := Lib.hid hF0
        have hW := fun x (A : Option Addr) (W : World) h => span_within a0 a1 0 A 1 1 [x] W h rfl one_le
        clear hx h0 h1 h2 hv0 hv1 hres hF0
        go_enter Try.func61, Try.ntmps61
        go_wp2_with fail
        refine (hT _ ((by (try show Below _ _ _); repeat (first | (with_reducible refine Below.setCell ?_ (by first | omega | (simp <;> omega)) _) | (with_reducible refine Below.alloc ?_ (by first | omega | (simp <;> omega)) _) | (with_reducible refine Below.drew ?_) | (with_reducible exact Below.refl _ _) | (with_reducible exact Below.refl _ _) | (with_reducible refine below_call ?_ (by assumption) (by first | omega | (simp <;> omega))) | (with_reducible refine below_call ?_ (Drew.below (by assumption) _) (by first | omega | (simp <;> omega))))))).mono ?_
        rintro e w1 ⟨rfl, hb1⟩
        have hz1 := hb1.size
        try simp only [World.size_alloc, World.size_setCell, World.size_drew] at hz1
        have hc1_0 := fun o => hb1.cell (p := ⟨w.heap.size, o, none⟩) (by show w.heap.size < _; first | omega | (simp only [World.size_alloc, World.size_setCell, World.size_drew]; omega))
        have hf1_0 := fun o => hb1.frozen (p := ⟨w.heap.size, o, none⟩) (by show w.heap.size < _; first | omega | (simp only [World.size_alloc, World.size_setCell, World.size_drew]; omega))
        have hz1_0 : w.heap.size < w1.heap.size := by omega
        have hc1_1 := fun o => hb1.cell (p := ⟨w.heap.size + 1, o, none⟩) (by show w.heap.size + 1 < _; first | omega | (simp only [World.size_alloc, World.size_setCell, World.size_drew]; omega))
        have hf1_1 := fun o => hb1.frozen (p := ⟨w.heap.size + 1, o, none⟩) (by show w.heap.size + 1 < _; first | omega | (simp only [World.size_alloc, World.size_setCell, World.size_drew]; omega))
        have hz1_1 : w.heap.size + 1 < w1.heap.size := by omega
        go_wp2_with fail
        refine (hR _ _ (Elems.of1 (by simp [go_sem]) (by simp [go_sem]) (by simp))).mono ?_
        rintro e w2 ⟨rfl, hb2⟩
        have hz2 := hb2.size
        try simp only [World.size_alloc, World.size_setCell, World.size_drew] at hz2
        have hc2_0 := fun o => hb2.cell (p := ⟨w.heap.size, o, none⟩) (by show w.heap.size < _; first | omega | (simp only [World.size_alloc, World.size_setCell, World.size_drew]; omega))
        have hf2_0 := fun o => hb2.frozen (p := ⟨w.heap.size, o, none⟩) (by show w.heap.size < _; first | omega | (simp only [World.size_alloc, World.size_setCell, World.size_drew]; omega))
        have hz2_0 : w.heap.size < w2.heap.size := by omega
        have hc2_1 := fun o => hb2.cell (p := ⟨w.heap.size + 1, o, none⟩) (by show w.heap.size + 1 < _; first | omega | (simp only [World.size_alloc, World.size_setCell, World.size_drew]; omega))
        have hf2_1 := fun o => hb2.frozen (p := ⟨w.heap.size + 1, o, none⟩) (by show w.heap.size + 1 < _; first | omega | (simp only [World.size_alloc, World.size_setCell, World.size_drew]; omega))
        have hz2_1 : w.heap.size + 1 < w2.heap.size := by omega
        go_wp2_with fail
        refine (hE _ ((by (try show Below _ _ _); repeat (first | (with_reducible refine Below.setCell ?_ (by first | omega | (simp <;> omega)) _) | (with_reducible refine Below.alloc ?_ (by first | omega | (simp <;> omega)) _) | (with_reducible refine Below.drew ?_) | (with_reducible exact Below.refl _ _) | (with_reducible exact Below.refl _ _) | (with_reducible refine below_call ?_ (by assumption) (by first | omega | (simp <;> omega))) | (with_reducible refine below_call ?_ (Drew.below (by assumption) _) (by first | omega | (simp <;> omega))))))).mono ?_
        rintro e w3 ⟨rfl, hb3⟩
        have hz3 := hb3.size
        try simp only [World.size_alloc, World.size_setCell, World.size_drew] at hz3
        have hc3_0 := fun o => hb3.cell (p := ⟨w.heap.size, o, none⟩) (by show w.heap.size < _; first | omega | (simp only [World.size_alloc, World.size_setCell, World.size_drew]; omega))
        have hf3_0 := fun o => hb3.frozen (p := ⟨w.heap.size, o, none⟩) (by show w.heap.size < _; first | omega | (simp only [World.size_alloc, World.size_setCell, World.size_drew]; omega))
        have hz3_0 : w.heap.size < w3.heap.size := by omega
        have hc3_1 := fun o => hb3.cell (p := ⟨w.heap.size + 1, o, none⟩) (by show w.heap.size + 1 < _; first | omega | (simp only [World.size_alloc, World.size_setCell, World.size_drew]; omega))
        have hf3_1 := fun o => hb3.frozen (p := ⟨w.heap.size + 1, o, none⟩) (by show w.heap.size + 1 < _; first | omega | (simp only [World.size_alloc, World.size_setCell, World.size_drew]; omega))
        have hz3_1 : w.heap.size + 1 < w3.heap.size := by omega
        go_wp2_with fail
        refine (hI _ _ (Ints.of2 (by simp [go_sem]) (by simp [go_sem]) (by simp))).mono ?_
        rintro e w4 ⟨rfl, hb4⟩
        have hz4 := hb4.size
        try simp only [World.size_alloc, World.size_setCell, World.size_drew] at hz4
        have hc4_0 := fun o => hb4.cell (p := ⟨w.heap.size, o, none⟩) (by show w.heap.size < _; first | omega | (simp only [World.size_alloc, World.size_setCell, World.size_drew]; omega))
        have hf4_0 := fun o => hb4.frozen (p := ⟨w.heap.size, o, none⟩) (by show w.heap.size < _; first | omega | (simp only [World.size_alloc, World.size_setCell, World.size_drew]; omega))
        have hz4_0 : w.heap.size < w4.heap.size := by omega
        have hc4_1 := fun o => hb4.cell (p := ⟨w.heap.size + 1, o, none⟩) (by show w.heap.size + 1 < _; first | omega | (simp only [World.size_alloc, World.size_setCell, World.size_drew]; omega))
        have hf4_1 := fun o => hb4.frozen (p := ⟨w.heap.size + 1, o, none⟩) (by show w.heap.size + 1 < _; first | omega | (simp only [World.size_alloc, World.size_setCell, World.size_drew]; omega))
        have hz4_1 : w.heap.size + 1 < w4.heap.size := by omega
        go_wp2_with fail
        refine (hV _ ((by (try show Below _ _ _); repeat (first | (with_reducible refine Below.setCell ?_ (by first | omega | (simp <;> omega)) _) | (with_reducible refine Below.alloc ?_ (by first | omega | (simp <;> omega)) _) | (with_reducible refine Below.drew ?_) | (with_reducible exact Below.refl _ _) | (with_reducible exact Below.refl _ _) | (with_reducible refine below_call ?_ (by assumption) (by first | omega | (simp <;> omega))) | (with_reducible refine below_call ?_ (Drew.below (by assumption) _) (by first | omega | (simp <;> omega))))))).mono ?_
        rintro e w5 ⟨rfl, hb5⟩
        have hz5 := hb5.size
        try simp only [World.size_alloc, World.size_setCell, World.size_drew] at hz5
        have hc5_0 := fun o => hb5.cell (p := ⟨w.heap.size, o, none⟩) (by show w.heap.size < _; first | omega | (simp only [World.size_alloc, World.size_setCell, World.size_drew]; omega))
        have hf5_0 := fun o => hb5.frozen (p := ⟨w.heap.size, o, none⟩) (by show w.heap.size < _; first | omega | (simp only [World.size_alloc, World.size_setCell, World.size_drew]; omega))
        have hz5_0 : w.heap.size < w5.heap.size := by omega
        have hc5_1 := fun o => hb5.cell (p := ⟨w.heap.size + 1, o, none⟩) (by show w.heap.size + 1 < _; first | omega | (simp only [World.size_alloc, World.size_setCell, World.size_drew]; omega))
        have hf5_1 := fun o => hb5.frozen (p := ⟨w.heap.size + 1, o, none⟩) (by show w.heap.size + 1 < _; first | omega | (simp only [World.size_alloc, World.size_setCell, World.size_drew]; omega))
        have hz5_1 : w.heap.size + 1 < w5.heap.size := by omega
        go_wp2_with fail
        refine (hU _ ((by (try show Below _ _ _); repeat (first | (with_reducible refine Below.setCell ?_ (by first | omega | (simp <;> omega)) _) | (with_reducible refine Below.alloc ?_ (by first | omega | (simp <;> omega)) _) | (with_reducible refine Below.drew ?_) | (with_reducible exact Below.refl _ _) | (with_reducible exact Below.refl _ _) | (with_reducible refine below_call ?_ (by assumption) (by first | omega | (simp <;> omega))) | (with_reducible refine below_call ?_ (Drew.below (by assumption) _) (by first | omega | (simp <;> omega))))))).mono ?_
        rintro e w6 ⟨rfl, hb6⟩
        have hz6 := hb6.size
        try simp only [World.size_alloc, World.size_setCell, World.size_drew] at hz6
        have hc6_0 := fun o => hb6.cell (p := ⟨w.heap.size, o, none⟩) (by show w.heap.size < _; first | omega | (simp only [World.size_alloc, World.size_setCell, World.size_drew]; omega))
        have hf6_0 := fun o => hb6.frozen (p := ⟨w.heap.size, o, none⟩) (by show w.heap.size < _; first | omega | (simp only [World.size_alloc, World.size_setCell, World.size_drew]; omega))
        have hz6_0 : w.heap.size < w6.heap.size := by omega
        have hc6_1 := fun o => hb6.cell (p := ⟨w.heap.size + 1, o, none⟩) (by show w.heap.size + 1 < _; first | omega | (simp only [World.size_alloc, World.size_setCell, World.size_drew]; omega))
        have hf6_1 := fun o => hb6.frozen (p := ⟨w.heap.size + 1, o, none⟩) (by show w.heap.size + 1 < _; first | omega | (simp only [World.size_alloc, World.size_setCell, World.size_drew]; omega))
        have hz6_1 : w.heap.size + 1 < w6.heap.size := by omega
        have p0 : w6.cell? ⟨w.heap.size, 0, none⟩ = some (.int .i64 a0) := by simp [go_sem, hc1_0, hc2_0, hc3_0, hc4_0, hc5_0, hc6_0, hz1_0, hz2_0, hz3_0, hz4_0, hz5_0]
        have p1 : w6.cell? ⟨w.heap.size, 1, none⟩ = some (.int .i64 a1) := by simp [go_sem, hc1_0, hc2_0, hc3_0, hc4_0, hc5_0, hc6_0, hz1_0, hz2_0, hz3_0, hz4_0, hz5_0]
        have r0 : w6.cell? ⟨w.heap.size + 1, 0, none⟩ = some (.int .i64 0) := by simp [go_sem, hc1_1, hc2_1, hc3_1, hc4_1, hc5_1, hc6_1, hz1_1, hz2_1, hz3_1, hz4_1, hz5_1]
        have r1 : w6.cell? ⟨w.heap.size + 1, 1, none⟩ = some (.int .i64 0) := by simp [go_sem, hc1_1, hc2_1, hc3_1, hc4_1, hc5_1, hc6_1, hz1_1, hz2_1, hz3_1, hz4_1, hz5_1]
        have rf : w6.frozen? ⟨w.heap.size + 1, 0, none⟩ = false := by simp [go_sem, hf1_1, hf2_1, hf3_1, hf4_1, hf5_1, hf6_1, hz1_1, hz2_1, hz3_1, hz4_1, hz5_1]
        have rg : w6.frozen? ⟨w.heap.size + 1, 1, none⟩ = false := by simp [go_sem, hf1_1, hf2_1, hf3_1, hf4_1, hf5_1, hf6_1, hz1_1, hz2_1, hz3_1, hz4_1, hz5_1]
        have HB6 : Below w.heap.size w w6 := (by (try show Below _ _ _); repeat (first | (with_reducible refine Below.setCell ?_ (by first | omega | (simp <;> omega)) _) | (with_reducible refine Below.alloc ?_ (by first | omega | (simp <;> omega)) _) | (with_reducible refine Below.drew ?_) | (with_reducible exact Below.refl _ _) | (with_reducible refine below_call ?_ (by assumption) (by first | omega | (simp <;> omega))) | (with_reducible refine below_call ?_ (Drew.below (by assumption) _) (by first | omega | (simp <;> omega)))))
        have hq6 : w.heap.size + 1 < w6.heap.size := hz6_1
        have hq60 : w.heap.size < w6.heap.size := by omega
        clear hc1_0 hc2_0 hc3_0 hc4_0 hc5_0 hc6_0 hc1_1 hc2_1 hc3_1 hc4_1 hc5_1 hc6_1 hf1_0 hf2_0 hf3_0 hf4_0 hf5_0 hf6_0 hf1_1 hf2_1 hf3_1 hf4_1 hf5_1 hf6_1 hb1 hb2 hb3 hb4 hb5 hb6
        clear hT hR hE hI hV hU
        go_wp2
        go_loopg [63] (n) (fun gg i wr => ∃ k : Nat, k ≤ n ∧ n - k ≤ gg ∧ i = .int .i64 k ∧ Aside (VlJ w a0 a1 w6.heap.size (valsF t ⟨a0, a1⟩ k) wr))
        case atStart =>
          refine ⟨0, Nat.zero_le _, Nat.le_refl _, rfl, ?_⟩
          rw [HF0.out]
          exact { below := (by (try show Below _ _ _); repeat (first | (with_reducible refine Below.setCell ?_ (by first | omega | (simp <;> omega)) _) | (with_reducible refine Below.alloc ?_ (by first | omega | (simp <;> omega)) _) | (with_reducible refine Below.drew ?_) | (with_reducible exact Below.refl _ _) | (with_reducible exact HB6) | (with_reducible refine below_call ?_ (by assumption) (by first | omega | (simp <;> omega))) | (with_reducible refine below_call ?_ (Drew.below (by assumption) _) (by first | omega | (simp <;> omega))))), far := hq6, size := (by simp), p0 := (by simp [go_sem, p0, hq60]), p1 := (by simp [go_sem, p1, hq60]), r0 := (by simp [go_sem, r0, hq6]), r1 := (by simp [go_sem, r1, hq6]), rf := (by simp [go_sem, rf, hq6]), rg := (by simp [go_sem, rg, hq6]), o0 := (by simp [go_sem]), o1 := (by simp [go_sem]), of := (by simp [go_sem]), og := (by simp [go_sem]) }
        case round =>
          obtain ⟨k, hk, hg, rfl, I⟩ := hrel
          by_cases hlt : k < n
          · obtain ⟨b, o, rfl, _, hlb, hc⟩ := HX.out (by have := hn.out; omega)
            have x0 := (I.out.below.cell (p := ⟨b, o + k * 2 + 0, none⟩) hlb).trans (hc k 0 (by have := hn.out; omega) (by omega))
            have x1 := (I.out.below.cell (p := ⟨b, o + k * 2 + 1, none⟩) hlb).trans (hc k 1 (by have := hn.out; omega) (by omega))
            have hsn := valsF_succ t ⟨a0, a1⟩ k (by have := hn.out; omega)
            have II := Lib.hid I.out
            have Ip0 := I.out.p0
            have Ip1 := I.out.p1
            have hfar := I.out.far
            have hsz := I.out.size
            clear hc p0 p1 r0 r1 rf rg
            generalize t[k]?.getD R.d = r at x0 x1 hsn
            obtain ⟨r0, r1⟩ := r
            simp only [R.cell, Nat.add_zero, if_true, Nat.one_ne_zero, if_false] at x0 x1
            generalize valsF t ⟨a0, a1⟩ k = out at hsn II I
            obtain ⟨out0, out1⟩ := out
            unfold valsStep at hsn
            simp only at hsn
            have Hsn := Lib.hid hsn
            clear hsn I
            have hW1 := fun A W h => hW r0 A W h
            have hltz : (k : Int) < (n : Int) := by omega
            have hk0 : (0 : Int) ≤ (k : Int) := by omega
            have hwr0 : w.heap.size < wr.heap.size := by omega
            have hwr1 : w.heap.size + 1 < wr.heap.size := by omega
            cases hb : btw a0 a1 [r0] with
            | false =>
              rw [hb] at hW1
              have Hb := Lib.hid hb
              clear hb
              go_wp2_with fail
              refine (hW1 _ _ (Ints.of1 (by simp [go_sem]) (by simp))).mono ?_
              rintro e w1 ⟨rfl, hb1⟩
              have hBl : Below wr.heap.size wr w1 := (by (try show Below _ _ _); repeat (first | (with_reducible refine Below.setCell ?_ (by first | omega | (simp <;> omega)) _) | (with_reducible refine Below.alloc ?_ (by first | omega | (simp <;> omega)) _) | (with_reducible refine Below.drew ?_) | (with_reducible exact Below.refl _ _) | (with_reducible exact Below.refl _ _) | (with_reducible refine below_call ?_ hb1 (by first | omega | (simp <;> omega))) | (with_reducible refine below_call ?_ (Drew.below hb1 _) (by first | omega | (simp <;> omega)))))
              have J := Lib.hid (II.out.later hBl)
              clear hb1 hBl
              go_wp2
              go_roundg (n - (k + 1))
              case measure => omega
              case rel =>
                refine ⟨k + 1, by omega, by omega, by go_num, ?_⟩
                rw [Hsn.out, Hb.out]
                exact J.out
            | true =>
              rw [hb] at hW1
              have Hb := Lib.hid hb
              clear hb
              go_wp2_with fail
              refine (hW1 _ _ (Ints.of1 (by simp [go_sem]) (by simp))).mono ?_
              rintro e w1 ⟨rfl, hb1⟩
              have hBl : Below wr.heap.size wr w1 := (by (try show Below _ _ _); repeat (first | (with_reducible refine Below.setCell ?_ (by first | omega | (simp <;> omega)) _) | (with_reducible refine Below.alloc ?_ (by first | omega | (simp <;> omega)) _) | (with_reducible refine Below.drew ?_) | (with_reducible exact Below.refl _ _) | (with_reducible exact Below.refl _ _) | (with_reducible refine below_call ?_ hb1 (by first | omega | (simp <;> omega))) | (with_reducible refine below_call ?_ (Drew.below hb1 _) (by first | omega | (simp <;> omega)))))
              have y0 : w1.cell? ⟨wr.heap.size, 0, none⟩ = some (.int .i64 r0) := (hb1.cell (p := ⟨wr.heap.size, 0, none⟩) (by show wr.heap.size < _; simp <;> omega)).trans (by simp [go_sem])
              have y1 : w1.cell? ⟨wr.heap.size, 1, none⟩ = some (.int .i64 r1) := (hb1.cell (p := ⟨wr.heap.size, 1, none⟩) (by show wr.heap.size < _; simp <;> omega)).trans (by simp [go_sem])
              have hz1 := hb1.size
              (try simp only [World.size_alloc] at hz1)
              have J := II.out.later hBl
              clear hb1 hBl
              obtain ⟨j1, j2, j3, p0, p1, z0, z1, zf, zg, o0, o1, of, og⟩ := J
              simp only at o0 o1
              have hy : wr.heap.size < w1.heap.size := by omega
              have hn1 : ¬ w6.heap.size = w.heap.size := by omega
              have hn2 : ¬ w6.heap.size = w.heap.size + 1 := by omega
              have hn3 : w.heap.size < w1.heap.size := by omega
              have hn4 : w.heap.size + 1 < w1.heap.size := by omega
              clear Ip0 Ip1
              go_wp2_with fail
              go_region
              all_goals
                go_wp2
                go_roundg (n - (k + 1))
                case measure => omega
                case rel =>
                  refine ⟨k + 1, by omega, by omega, by go_num, ?_⟩
                  rw [Hsn.out, Hb.out, if_pos rfl]
                  exact { below := (by (try show Below _ _ _); repeat (first | (with_reducible refine Below.setCell ?_ (by first | omega | (simp <;> omega)) _) | (with_reducible refine Below.alloc ?_ (by first | omega | (simp <;> omega)) _) | (with_reducible refine Below.drew ?_) | (with_reducible exact Below.refl _ _) | (with_reducible exact j1) | (with_reducible refine below_call ?_ (by assumption) (by first | omega | (simp <;> omega))) | (with_reducible refine below_call ?_ (Drew.below (by assumption) _) (by first | omega | (simp <;> omega))))), far := j2, size := (by first | omega | (simp; omega)), p0 := (by simp [go_sem, cell_set, p0, hn1]), p1 := (by simp [go_sem, cell_set, p1, hn1]), r0 := (by simp [go_sem, cell_set, z0, hn2]), r1 := (by simp [go_sem, cell_set, z1, hn2]), rf := (by simp [go_sem, zf]), rg := (by simp [go_sem, zg]), o0 := (by simp [go_sem, cell_set, o0]), o1 := (by simp [go_sem, cell_set, o1]), of := (by simp [go_sem, of]), og := (by simp [go_sem, og]) }
          · have hltz : ¬ (k : Int) < (n : Int) := by omega
            have hke : k = t.length := by have := hn.out; omega
            have hr := Hres.out
            rw [← hke] at hr
            rw [hr] at I
            obtain ⟨j1, j2, j3, q0, q1, z0, z1, zf, zg, o0, o1, of, og⟩ := I.out
            simp only at o0 o1
            have hn3 : w.heap.size < wr.heap.size := by omega
            have hn4 : w.heap.size + 1 < wr.heap.size := by omega
            clear p0 p1 r0 r1 rf rg hr hke I
            go_wp2
            refine bodyPost_ret (v := .tuple #[.agg #[.int .i64 res0, .int .i64 res1], .int .i64 0]) (by simp [results, Try.results61, go_sem, cell_set, z0, z1]) rfl ⟨rfl, (by (try show Below _ _ _); repeat (first | (with_reducible refine Below.setCell ?_ (by first | omega | (simp <;> omega)) _) | (with_reducible refine Below.alloc ?_ (by first | omega | (simp <;> omega)) _) | (with_reducible refine Below.drew ?_) | (with_reducible exact Below.refl _ _) | (with_reducible exact j1) | (with_reducible refine below_call ?_ (by assumption) (by first | omega | (simp <;> omega))) | (with_reducible refine below_call ?_ (Drew.below (by assumption) _) (by first | omega | (simp <;> omega)))))⟩

end Go.Proofs.Ytfohdafijfjefaa
