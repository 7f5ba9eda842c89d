/- Contracts: span.Near and its two closures; slices.MinFunc over ranges. -/
import Derived.Test.YtfohdafijfjefaaSetsW
import Derived.Test.YtfohdafijfjefaaRefSums2
import Derived.Test.YtfohdafijfjefaaMM
set_option linter.unusedSimpArgs false
set_option linter.unusedVariables false
namespace Go.Proofs.Ytfohdafijfjefaa
open Go.RowKit Go.Shelf
attribute [local go_sem ↓] Go.wp_at_zero Go.wp_at_succ

/-- how far a range is from a number -/
def farR (x : Int) (r : R) : Int := max (r.lo - x) (max (x - r.hi) 0)

set_option maxHeartbeats 400000 in
theorem near1_any (r0 r1 x : Int) (bx : Nat) (w : World) (hc : w.cell? ⟨bx, 0, none⟩ = some (.int .i64 x)) (hb : bx < w.heap.size) (h0 : -1000000000000000 ≤ r0 ∧ r0 ≤ 1000000000000000) (h1 : -1000000000000000 ≤ r1 ∧ r1 ≤ 1000000000000000) (hx : -1000000000000000 ≤ x ∧ x ≤ 1000000000000000) :
    Calls Try.prog 106 #[.agg #[.int .i64 r0, .int .i64 r1], .pointer (some ⟨bx, 0, none⟩)] w fun e w' => e = .returned (.int .i64 (farR x ⟨r0, r1⟩)) ∧ Below w.heap.size w w' := by
  have e : farR x ⟨r0, r1⟩ = max (r0 - x) (max (x - r1) 0) := rfl
  rw [e]
  clear e
  go_enter Try.func106, Try.ntmps106
  go_wp2
  go_ret
  exact ⟨rfl, (by (try show Below _ _ _); repeat (first | (with_reducible refine Below.setCell ?_ (by first | omega | (simp <;> omega)) _) | (with_reducible refine Below.alloc ?_ (by first | omega | (simp <;> omega)) _) | (with_reducible refine Below.drew ?_) | (with_reducible exact Below.refl _ _) | (with_reducible refine below_call ?_ (by assumption) (by first | omega | (simp <;> omega))) | (with_reducible refine below_call ?_ (Drew.below (by assumption) _) (by first | omega | (simp <;> omega)))))⟩

set_option maxRecDepth 100000 in
set_option maxHeartbeats 1000000 in
theorem near2_any (a0 a1 b0 b1 x : Int) (bx bf : Nat) (w : World) (hf : w.cell? ⟨bf, 0, none⟩ = some (.func (.func 106) #[] #[.pointer (some ⟨bx, 0, none⟩)])) (hbf : bf < w.heap.size) (hc : w.cell? ⟨bx, 0, none⟩ = some (.int .i64 x)) (hb : bx < w.heap.size)
    (ha0 : -1000000000000000 ≤ a0 ∧ a0 ≤ 1000000000000000) (ha1 : -1000000000000000 ≤ a1 ∧ a1 ≤ 1000000000000000) (hb0 : -1000000000000000 ≤ b0 ∧ b0 ≤ 1000000000000000) (hb1 : -1000000000000000 ≤ b1 ∧ b1 ≤ 1000000000000000) (hx : -1000000000000000 ≤ x ∧ x ≤ 1000000000000000) :
    Calls Try.prog 108 #[.agg #[.int .i64 a0, .int .i64 a1], .agg #[.int .i64 b0, .int .i64 b1], .pointer (some ⟨bf, 0, none⟩)] w fun e w' => e = .returned (.int .i64 (farR x ⟨a0, a1⟩ - farR x ⟨b0, b1⟩)) ∧ Below w.heap.size w w' := by
  have d1 : 0 ≤ farR x ⟨a0, a1⟩ ∧ farR x ⟨a0, a1⟩ ≤ 2000000000000000 := by unfold farR; simp only; omega
  have d2 : 0 ≤ farR x ⟨b0, b1⟩ ∧ farR x ⟨b0, b1⟩ ≤ 2000000000000000 := by unfold farR; simp only; omega
  have hw : IntKind.i64.wrap (farR x ⟨a0, a1⟩ - farR x ⟨b0, b1⟩) = farR x ⟨a0, a1⟩ - farR x ⟨b0, b1⟩ := by rw [IntKind.wrap_i64]; omega
  go_enter Try.func108, Try.ntmps108
  go_wp2_with fail
  generalize hq : World.alloc (World.alloc w _) _ = wx
  have hbx : Below w.heap.size w wx := by rw [← hq]; exact (by (try show Below _ _ _); repeat (first | (with_reducible refine Below.setCell ?_ (by first | omega | (simp <;> omega)) _) | (with_reducible refine Below.alloc ?_ (by first | omega | (simp <;> omega)) _) | (with_reducible refine Below.drew ?_) | (with_reducible exact Below.refl _ _) | (with_reducible exact Below.refl _ _) | (with_reducible refine below_call ?_ (by assumption) (by first | omega | (simp <;> omega))) | (with_reducible refine below_call ?_ (Drew.below (by assumption) _) (by first | omega | (simp <;> omega)))))
  have c0 : wx.cell? ⟨w.heap.size, 0, none⟩ = some (.int .i64 a0) := by rw [← hq]; simp [go_sem]
  have c1 : wx.cell? ⟨w.heap.size, 1, none⟩ = some (.int .i64 a1) := by rw [← hq]; simp [go_sem]
  have c2 : wx.cell? ⟨w.heap.size + 1, 0, none⟩ = some (.int .i64 b0) := by rw [← hq]; simp [go_sem]
  have c3 : wx.cell? ⟨w.heap.size + 1, 1, none⟩ = some (.int .i64 b1) := by rw [← hq]; simp [go_sem]
  have hz : wx.heap.size = w.heap.size + 1 + 1 := by rw [← hq]; simp
  have c4 := (hbx.cell (p := ⟨bf, 0, none⟩) hbf).trans hf
  have c5 := (hbx.cell (p := ⟨bx, 0, none⟩) hb).trans hc
  have z0 : w.heap.size < wx.heap.size := by omega
  have z1 : w.heap.size + 1 < wx.heap.size := by omega
  have z2 : bf < wx.heap.size := by omega
  have z3 : bx < wx.heap.size := by omega
  clear hq hf hc hz
  go_region_held3 (fun w' => w'.cell? ⟨bf, 0, none⟩ = some (.func (.func 106) #[] #[.pointer (some ⟨bx, 0, none⟩)]) ∧ w'.cell? ⟨bx, 0, none⟩ = some (.int .i64 x) ∧ bx < w'.heap.size ∧ w'.cell? ⟨w.heap.size, 0, none⟩ = some (.int .i64 a0) ∧ w'.cell? ⟨w.heap.size, 1, none⟩ = some (.int .i64 a1) ∧ w'.cell? ⟨w.heap.size + 1, 0, none⟩ = some (.int .i64 b0) ∧ w'.cell? ⟨w.heap.size + 1, 1, none⟩ = some (.int .i64 b1))
    (first | ((try refine ⟨?_, ?_, ?_, ?_, ?_, ?_, ?_⟩) <;> (simp [go_sem, k0, k1, k2, k3, q3, c0, c1, c2, c3, c4, c5, z3]; done)) | ((try refine ⟨?_, ?_, ?_, ?_, ?_, ?_, ?_⟩) <;> (simp [go_sem, c0, c1, c2, c3, c4, c5, z3]; done)) | go_keep)
    ((go_at_call 106; refine (near1_any _ _ x bx _ (by first | assumption | (simp [go_sem, c5]; done) | (simp [go_sem, k3, c5]; done)) (by first | omega | (simp [z3]; done) | (simp; omega)) (by omega) (by omega) hx).mono ?_; rintro e w3 ⟨rfl, hb3⟩; have k0 := fun o => hb3.cell (p := ⟨w.heap.size, o, none⟩) (by show w.heap.size < _; first | omega | (simp; omega)); have k1 := fun o => hb3.cell (p := ⟨w.heap.size + 1, o, none⟩) (by show w.heap.size + 1 < _; first | omega | (simp; omega)); have k2 := fun o => hb3.cell (p := ⟨bf, o, none⟩) (by show bf < _; first | omega | (simp; omega)); have k3 := fun o => hb3.cell (p := ⟨bx, o, none⟩) (by show bx < _; first | omega | (simp; omega)); have q0 : w.heap.size + 1 < w3.heap.size := (by have hzz := hb3.size; first | omega | (simp at hzz; omega)); have q2 : bf < w3.heap.size := (by have hzz := hb3.size; first | omega | (simp at hzz; omega)); have q3 : bx < w3.heap.size := (by have hzz := hb3.size; first | omega | (simp at hzz; omega)); have hS3 : Below w.heap.size w w3 := below_call (by first | exact hS3 | exact Below.drew hbx | exact hbx) hb3 (by first | omega | (simp; omega))))
  all_goals
    go_wp2
    go_ret
    exact ⟨rfl, (by (try show Below _ _ _); repeat (first | (with_reducible refine Below.setCell ?_ (by first | omega | (simp <;> omega)) _) | (with_reducible refine Below.alloc ?_ (by first | omega | (simp <;> omega)) _) | (with_reducible refine Below.drew ?_) | (with_reducible exact Below.refl _ _) | (with_reducible exact hS3) | (with_reducible refine below_call ?_ (by assumption) (by first | omega | (simp <;> omega))) | (with_reducible refine below_call ?_ (Drew.below (by assumption) _) (by first | omega | (simp <;> omega)))))⟩

/-- what a comparing function that is handed on does -/
def CmpB (P : Program) (g : FuncId) (cap : Array Value) (f : R → R → Int) (ok : R → Prop) (w : World) : Prop :=
  ∀ (a b : R) (W : World), ok a → ok b → Below w.heap.size w W → Calls P g (#[a.val, b.val] ++ cap) W fun e W' => e = .returned (.int .i64 (f a b)) ∧ Below W.heap.size W W'

def minF (f : R → R → Int) (x : R) (l : List R) : R := l.foldl (fun m r => if f r m < 0 then r else m) x
theorem minF_mem (f : R → R → Int) (x : R) (l : List R) : minF f x l ∈ x :: l := by
  induction l generalizing x with
  | nil => simp [minF]
  | cons y l ih =>
    unfold minF
    rw [List.foldl_cons]
    by_cases h : f y x < 0
    · rw [if_pos h]; have := ih y; unfold minF at this; simp at this ⊢; rcases this with h' | h'; exact .inr (.inl h'); exact .inr (.inr h')
    · rw [if_neg h]; have := ih x; unfold minF at this; simp at this ⊢; rcases this with h' | h'; exact .inl h'; exact .inr (.inr h')

set_option maxRecDepth 100000 in
set_option maxHeartbeats 1000000 in
theorem minFunc_any (g : FuncId) (cap : Array Value) (f : R → R → Int) (ok : R → Prop) (lo : Nat) (A : Option Addr) (n c : Nat) (x : R) (l : List R) (w : World) (eg : Enters Try.prog g) (hx : Ranges w lo A (x :: l)) (hn : Aside (l.length + 1 = n)) (hl : n ≤ maxLen) (hok : Aside (∀ r ∈ x :: l, ok r)) (hp : CmpB Try.prog g cap f ok w) :
    Calls Try.prog 107 #[.slice A n c, .func (.func g) #[] cap] w fun e w' => e = .returned (minF f x l).val ∧ Below w.heap.size w w' := by
  unfold maxLen at hl
  unfold Enters at eg
  have hn0 : ¬ (n : Int) < 1 := by have := hn.out; omega
  have hb0 : (0 : Int) < (n : Int) := by have := hn.out; omega
  obtain ⟨b, o, rfl, hlo, hlb, hc⟩ := hx (by simp)
  have hx0 := hc 0 0 (by simp) (by omega)
  have hx1 := hc 0 1 (by simp) (by omega)
  simp only [Nat.zero_mul, Nat.add_zero, List.getElem?_cons_zero, Option.getD_some, R.cell, if_true, Nat.one_ne_zero, if_false] at hx0 hx1
  have HC := Lib.hid hc
  have HP := Lib.hid hp
  clear hc hp hx
  generalize hres : minF f x l = res
  have Hres := Lib.hid hres
  clear hres
  obtain ⟨x0, x1⟩ := x
  simp only at hx0 hx1
  go_enter Try.func107, Try.ntmps107
  go_wp2
  go_loopg [6] (n) (fun gg i wr => ∃ k : Nat, k < n ∧ n - k ≤ gg ∧ i = .int .i64 ((k + 1 : Nat) : Int) ∧ Aside (MixJ w (w.heap.size + 1) (minF f ⟨x0, x1⟩ (l.take k)) wr))
  case atStart =>
    exact ⟨0, by have := hn.out; omega, by omega, rfl, { below := (by (try show Below _ _ _); repeat (first | (with_reducible refine Below.setCell ?_ (by first | omega | (simp <;> omega)) _) | (with_reducible refine Below.alloc ?_ (by first | omega | (simp <;> omega)) _) | (with_reducible refine Below.drew ?_) | (with_reducible exact Below.refl _ _) | (with_reducible refine below_call ?_ (by assumption) (by first | omega | (simp <;> omega))) | (with_reducible refine below_call ?_ (Drew.below (by assumption) _) (by first | omega | (simp <;> omega))))), size := (by simp), far := (by omega), r0 := (by simp [go_sem]), r1 := (by simp [go_sem]), rf := (by simp [go_sem]), rg := (by simp [go_sem]), a0 := (by simp [go_sem, minF]), a1 := (by simp [go_sem, minF]), af := (by simp [go_sem]), ag := (by simp [go_sem]) }⟩
  case round =>
    obtain ⟨k, hk, hg, rfl, I⟩ := hrel
    by_cases hlt : k + 1 < n
    · have y0 := (I.out.below.cell (p := ⟨b, o + (k + 1) * 2 + 0, none⟩) hlb).trans (HC.out (k + 1) 0 (by simp; have := hn.out; omega) (by omega))
      have y1 := (I.out.below.cell (p := ⟨b, o + (k + 1) * 2 + 1, none⟩) hlb).trans (HC.out (k + 1) 1 (by simp; have := hn.out; omega) (by omega))
      have hkl : k < l.length := by have := hn.out; omega
      have hsn : minF f ⟨x0, x1⟩ (l.take (k + 1)) = (if f (l[k]?.getD R.d) (minF f ⟨x0, x1⟩ (l.take k)) < 0 then (l[k]?.getD R.d) else minF f ⟨x0, x1⟩ (l.take k)) := by
        unfold minF
        rw [List.take_succ_eq_append_getElem hkl, List.foldl_append]
        simp [List.getElem?_eq_getElem hkl]
      have oky : ok (l[k]?.getD R.d) := by
        rw [List.getElem?_eq_getElem hkl]
        exact hok.out _ (by simp)
      have oka : ok (minF f ⟨x0, x1⟩ (l.take k)) := by
        refine hok.out _ ?_
        have := minF_mem f ⟨x0, x1⟩ (l.take k)
        simp at this ⊢
        rcases this with h | h
        · exact .inl h
        · exact .inr (List.mem_of_mem_take h)
      have I' := I.out
      clear I
      simp only [List.getElem?_cons_succ] at y0 y1
      generalize l[k]?.getD R.d = y at y0 y1 hsn oky
      generalize minF f ⟨x0, x1⟩ (l.take k) = a at I' hsn oka
      obtain ⟨p0, p1⟩ := y
      obtain ⟨s0, s1⟩ := a
      simp only [R.cell, Nat.add_zero, if_true, Nat.one_ne_zero, if_false] at y0 y1
      have Hsn := Lib.hid hsn
      have hcall := fun W h => HP.out ⟨p0, p1⟩ ⟨s0, s1⟩ W oky oka h
      simp only [R.val] at hcall
      generalize hv : f ⟨p0, p1⟩ ⟨s0, s1⟩ = v at hcall
      have Hv := Lib.hid hv
      clear hsn hv oky oka
      obtain ⟨hbe, hs, hfar, r0, r1, rf, rg, a0, a1, af, ag⟩ := I'
      simp only at a0 a1
      have hs2 : w.heap.size < wr.heap.size := by omega
      have hbw : b < wr.heap.size := by omega
      have hltz : ((k : Int) + 1) < (n : Int) := by omega
      have hltn : k + 1 < n := hlt
      have hk0 : (0 : Int) ≤ (k : Int) + 1 := by omega
      have hbw2 : b < w.heap.size := hlb
      go_wp2_with fail
      go_still_tail 6, (by kernel_rfl)
      change wpList _ _ _ _ _ wr.drew
      have hD : Below wr.heap.size wr wr.drew := Drew.below ⟨1, rfl⟩ _
      generalize wr.drew = wd at hD ⊢
      have HBd : Below w.heap.size w wd := hbe.trans (hD.mono (by omega))
      have hzd := hD.size
      have q0 := (hD.cell (p := ⟨w.heap.size, 0, none⟩) hs2).trans r0
      have q1 := (hD.cell (p := ⟨w.heap.size, 1, none⟩) hs2).trans r1
      have q2 := (hD.frozen (p := ⟨w.heap.size, 0, none⟩) hs2).trans rf
      have q3 := (hD.frozen (p := ⟨w.heap.size, 1, none⟩) hs2).trans rg
      have q4 := (hD.cell (p := ⟨w.heap.size + 1, 0, none⟩) hs).trans a0
      have q5 := (hD.cell (p := ⟨w.heap.size + 1, 1, none⟩) hs).trans a1
      have q6 := (hD.frozen (p := ⟨w.heap.size + 1, 0, none⟩) hs).trans af
      have q7 := (hD.frozen (p := ⟨w.heap.size + 1, 1, none⟩) hs).trans ag
      have q8 := (hD.cell (p := ⟨b, o + (k + 1) * 2, none⟩) hbw).trans y0
      have q9 := (hD.cell (p := ⟨b, o + (k + 1) * 2 + 1, none⟩) hbw).trans y1
      have hzd1 : w.heap.size + 1 < wd.heap.size := by omega
      have hzd0 : w.heap.size < wd.heap.size := by omega
      have hzdb : b < wd.heap.size := by omega
      clear r0 r1 rf rg a0 a1 af ag hD y0 y1
      have hcl := hcall wd HBd
      go_wp2_with (go_at_fn g; refine hcl.mono ?_; rintro e w2 ⟨rfl, hb2⟩; have u0 := (hb2.cell (p := ⟨w.heap.size, 0, none⟩) hzd0).trans q0; have u1 := (hb2.cell (p := ⟨w.heap.size, 1, none⟩) hzd0).trans q1; have u2 := (hb2.frozen (p := ⟨w.heap.size, 0, none⟩) hzd0).trans q2; have u3 := (hb2.frozen (p := ⟨w.heap.size, 1, none⟩) hzd0).trans q3; have u4 := (hb2.cell (p := ⟨w.heap.size + 1, 0, none⟩) hzd1).trans q4; have u5 := (hb2.cell (p := ⟨w.heap.size + 1, 1, none⟩) hzd1).trans q5; have u6 := (hb2.frozen (p := ⟨w.heap.size + 1, 0, none⟩) hzd1).trans q6; have u7 := (hb2.frozen (p := ⟨w.heap.size + 1, 1, none⟩) hzd1).trans q7; have u8 := (hb2.cell (p := ⟨b, o + (k + 1) * 2, none⟩) hzdb).trans q8; have u9 := (hb2.cell (p := ⟨b, o + (k + 1) * 2 + 1, none⟩) hzdb).trans q9; have hz2 := hb2.size; have HB2 : Below w.heap.size w w2 := (by (try show Below _ _ _); repeat (first | (with_reducible refine Below.setCell ?_ (by first | omega | (simp <;> omega)) _) | (with_reducible refine Below.alloc ?_ (by first | omega | (simp <;> omega)) _) | (with_reducible refine Below.drew ?_) | (with_reducible exact Below.refl _ _) | (with_reducible exact HBd) | (with_reducible refine below_call ?_ hb2 (by first | omega | (simp <;> omega))) | (with_reducible refine below_call ?_ (Drew.below hb2 _) (by first | omega | (simp <;> omega))))); have hw1 : w.heap.size + 1 < w2.heap.size := (by omega); have hw0 : w.heap.size < w2.heap.size := (by omega); clear q0 q1 q2 q3 q4 q5 q6 q7 q8 q9)
      all_goals
        go_roundg (n - (k + 1))
        case measure => omega
        case rel =>
          refine ⟨k + 1, by omega, by omega, by go_num, ?_⟩
          rw [Hsn.out, Hv.out]
          first
            | (rw [if_pos (by assumption)]
               exact { below := (by (try show Below _ _ _); repeat (first | (with_reducible refine Below.setCell ?_ (by first | omega | (simp <;> omega)) _) | (with_reducible refine Below.alloc ?_ (by first | omega | (simp <;> omega)) _) | (with_reducible refine Below.drew ?_) | (with_reducible exact Below.refl _ _) | (with_reducible exact HB2) | (with_reducible refine below_call ?_ (by assumption) (by first | omega | (simp <;> omega))) | (with_reducible refine below_call ?_ (Drew.below (by assumption) _) (by first | omega | (simp <;> omega))))), size := (by first | omega | (simp; omega)), far := hfar, r0 := (by simp [go_sem, cell_set, u0]), r1 := (by simp [go_sem, cell_set, u1]), rf := (by simp [go_sem, u2]), rg := (by simp [go_sem, u3]), a0 := (by simp [go_sem, cell_set, u4]), a1 := (by simp [go_sem, cell_set, u5]), af := (by simp [go_sem, u6]), ag := (by simp [go_sem, u7]) })
            | (rw [if_neg (by omega)]
               exact { below := (by (try show Below _ _ _); repeat (first | (with_reducible refine Below.setCell ?_ (by first | omega | (simp <;> omega)) _) | (with_reducible refine Below.alloc ?_ (by first | omega | (simp <;> omega)) _) | (with_reducible refine Below.drew ?_) | (with_reducible exact Below.refl _ _) | (with_reducible exact HB2) | (with_reducible refine below_call ?_ (by assumption) (by first | omega | (simp <;> omega))) | (with_reducible refine below_call ?_ (Drew.below (by assumption) _) (by first | omega | (simp <;> omega))))), size := (by first | omega | (simp; omega)), far := hfar, r0 := (by simp [go_sem, cell_set, u0]), r1 := (by simp [go_sem, cell_set, u1]), rf := (by simp [go_sem, u2]), rg := (by simp [go_sem, u3]), a0 := (by simp [go_sem, cell_set, u4]), a1 := (by simp [go_sem, cell_set, u5]), af := (by simp [go_sem, u6]), ag := (by simp [go_sem, u7]) })
    · have hltz : ¬ ((k : Int) + 1) < (n : Int) := by omega
      have hke : k = l.length := by have := hn.out; omega
      have htk : l.take k = l := List.take_of_length_le (by omega)
      rw [htk] at I
      have I' := I.out
      have hr := Hres.out
      clear I htk hke
      generalize minF f ⟨x0, x1⟩ l = a at *
      obtain ⟨s0, s1⟩ := a
      obtain ⟨hbe, hs, hfar, r0, r1, rf, rg, a0, a1, af, ag⟩ := I'
      simp only at a0 a1
      have hs2 : w.heap.size < wr.heap.size := by omega
      have Hr := Lib.hid hr
      clear hr
      go_wp2
      refine bodyPost_ret (v := .agg #[.int .i64 s0, .int .i64 s1]) (by simp [results, Try.results107, go_sem, cell_set, r0, r1]) rfl ⟨by rw [← Hr.out]; rfl, (by (try show Below _ _ _); repeat (first | (with_reducible refine Below.setCell ?_ (by first | omega | (simp <;> omega)) _) | (with_reducible refine Below.alloc ?_ (by first | omega | (simp <;> omega)) _) | (with_reducible refine Below.drew ?_) | (with_reducible exact Below.refl _ _) | (with_reducible exact hbe) | (with_reducible refine below_call ?_ (by assumption) (by first | omega | (simp <;> omega))) | (with_reducible refine below_call ?_ (Drew.below (by assumption) _) (by first | omega | (simp <;> omega)))))⟩

end Go.Proofs.Ytfohdafijfjefaa
