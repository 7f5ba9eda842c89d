/- Contract: span.Near. -/
import Derived.Test.YtfohdafijfjefaaNearFn
import Derived.Laws.EntriesVeiled
set_option linter.unusedSimpArgs false
set_option linter.unusedVariables false
namespace Go.Proofs.Ytfohdafijfjefaa
open Go.RowKit Go.Shelf
attribute [local go_sem ↓] Go.wp_at_zero Go.wp_at_succ

def nearB (x : Int) (y : R) (l : List R) : R := minF (fun a b => farR x a - farR x b) y l
def nearV (x : Int) : List R → Int × Int
  | [] => (0, 7)
  | y :: l => (min (max x (nearB x y l).lo) (nearB x y l).hi, 0)
def nearS (xs : List R) (x : Int) : Int × Int := if setS xs = 0 then (if btw (-1000000000000000) 1000000000000000 [x] = true then nearV x xs else (0, 3)) else (0, setS xs)

set_option maxRecDepth 100000 in
set_option maxHeartbeats 1000000 in
theorem Near_any (lo : Nat) (A : Option Addr) (n c : Nat) (xs : List R) (x : Int) (w : World) (hx : Ranges w lo A xs) (hn : Aside (xs.length = n)) (hl : n ≤ maxLen) :
    Calls Try.prog 42 #[.slice A n c, .int .i64 x] w fun e w' => e = .returned (.tuple #[.int .i64 (nearS xs x).1, .int .i64 (nearS xs x).2]) ∧ Below w.heap.size w w' := by
  have hC := fun (W : World) (h : Below w.heap.size w W) => CheckSet_any lo A n c xs W (hx.below h (Nat.le_refl _)) hn hl
  have hI := fun (A : Option Addr) (W : World) h => span_within (-1000000000000000) 1000000000000000 0 A 1 1 [x] W h rfl one_le
  by_cases h0 : setS xs = 0
  · have hm : nearS xs x = if btw (-1000000000000000) 1000000000000000 [x] = true then nearV x xs else (0, 3) := by unfold nearS; rw [if_pos h0]
    obtain ⟨h200, hok⟩ := setS_ok h0
    rw [h0] at hC
    cases hbt : btw (-1000000000000000) 1000000000000000 [x] with
    | false =>
      rw [hbt, if_neg (by decide)] at hm
      rw [hbt] at hI
      rw [hm]
      clear hm hx hok h0 hbt
      go_enter Try.func42, Try.ntmps42
      go_wp2_with fail
      refine (hC _ ((by (try show Below _ _ _); repeat (first | (with_reducible refine Below.setCell ?_ (by first | omega | (simp <;> omega)) _) | (with_reducible refine Below.alloc ?_ (by first | omega | (simp <;> omega)) _) | (with_reducible refine Below.drew ?_) | (with_reducible exact Below.refl _ _) | (with_reducible exact Below.refl _ _) | (with_reducible refine below_call ?_ (by assumption) (by first | omega | (simp <;> omega))) | (with_reducible refine below_call ?_ (Drew.below (by assumption) _) (by first | omega | (simp <;> omega))))))).mono ?_
      rintro e w1 ⟨rfl, hb1⟩
      have hz1 := hb1.size
      try simp only [World.size_alloc, World.size_setCell, World.size_drew] at hz1
      have hc1_0 := fun o => hb1.cell (p := ⟨w.heap.size, o, none⟩) (by show w.heap.size < _; first | omega | (simp only [World.size_alloc, World.size_setCell, World.size_drew]; omega))
      have hf1_0 := fun o => hb1.frozen (p := ⟨w.heap.size, o, none⟩) (by show w.heap.size < _; first | omega | (simp only [World.size_alloc, World.size_setCell, World.size_drew]; omega))
      have hz1_0 : w.heap.size < w1.heap.size := by omega
      go_wp2_with fail
      refine (hI _ _ (Ints.of1 (by simp [go_sem, hc1_0]) (by simp))).mono ?_
      rintro e w2 ⟨rfl, hb2⟩
      have hz2 := hb2.size
      try simp only [World.size_alloc, World.size_setCell, World.size_drew] at hz2
      have hc2_0 := fun o => hb2.cell (p := ⟨w.heap.size, o, none⟩) (by show w.heap.size < _; first | omega | (simp only [World.size_alloc, World.size_setCell, World.size_drew]; omega))
      have hf2_0 := fun o => hb2.frozen (p := ⟨w.heap.size, o, none⟩) (by show w.heap.size < _; first | omega | (simp only [World.size_alloc, World.size_setCell, World.size_drew]; omega))
      have hz2_0 : w.heap.size < w2.heap.size := by omega
      go_wp2
      go_ret2
      exact ⟨rfl, (by (try show Below _ _ _); repeat (first | (with_reducible refine Below.setCell ?_ (by first | omega | (simp <;> omega)) _) | (with_reducible refine Below.alloc ?_ (by first | omega | (simp <;> omega)) _) | (with_reducible refine Below.drew ?_) | (with_reducible exact Below.refl _ _) | (with_reducible refine below_call ?_ (by assumption) (by first | omega | (simp <;> omega))) | (with_reducible refine below_call ?_ (Drew.below (by assumption) _) (by first | omega | (simp <;> omega)))))⟩
    | true =>
      rw [hbt, if_pos rfl] at hm
      rw [hbt] at hI
      have hxb := (btw1 _ _ _).1 hbt
      rw [hm]
      cases xs with
      | nil =>
        obtain rfl : n = 0 := hn.out.symm
        clear hm hx hok h0 hbt
        go_enter Try.func42, Try.ntmps42
        go_wp2_with fail
        refine (hC _ ((by (try show Below _ _ _); repeat (first | (with_reducible refine Below.setCell ?_ (by first | omega | (simp <;> omega)) _) | (with_reducible refine Below.alloc ?_ (by first | omega | (simp <;> omega)) _) | (with_reducible refine Below.drew ?_) | (with_reducible exact Below.refl _ _) | (with_reducible exact Below.refl _ _) | (with_reducible refine below_call ?_ (by assumption) (by first | omega | (simp <;> omega))) | (with_reducible refine below_call ?_ (Drew.below (by assumption) _) (by first | omega | (simp <;> omega))))))).mono ?_
        rintro e w1 ⟨rfl, hb1⟩
        have hz1 := hb1.size
        try simp only [World.size_alloc, World.size_setCell, World.size_drew] at hz1
        have hc1_0 := fun o => hb1.cell (p := ⟨w.heap.size, o, none⟩) (by show w.heap.size < _; first | omega | (simp only [World.size_alloc, World.size_setCell, World.size_drew]; omega))
        have hf1_0 := fun o => hb1.frozen (p := ⟨w.heap.size, o, none⟩) (by show w.heap.size < _; first | omega | (simp only [World.size_alloc, World.size_setCell, World.size_drew]; omega))
        have hz1_0 : w.heap.size < w1.heap.size := by omega
        go_wp2_with fail
        refine (hI _ _ (Ints.of1 (by simp [go_sem, hc1_0]) (by simp))).mono ?_
        rintro e w2 ⟨rfl, hb2⟩
        have hz2 := hb2.size
        try simp only [World.size_alloc, World.size_setCell, World.size_drew] at hz2
        have hc2_0 := fun o => hb2.cell (p := ⟨w.heap.size, o, none⟩) (by show w.heap.size < _; first | omega | (simp only [World.size_alloc, World.size_setCell, World.size_drew]; omega))
        have hf2_0 := fun o => hb2.frozen (p := ⟨w.heap.size, o, none⟩) (by show w.heap.size < _; first | omega | (simp only [World.size_alloc, World.size_setCell, World.size_drew]; omega))
        have hz2_0 : w.heap.size < w2.heap.size := by omega
        go_wp2
        go_ret2
        exact ⟨rfl, (by (try show Below _ _ _); repeat (first | (with_reducible refine Below.setCell ?_ (by first | omega | (simp <;> omega)) _) | (with_reducible refine Below.alloc ?_ (by first | omega | (simp <;> omega)) _) | (with_reducible refine Below.drew ?_) | (with_reducible exact Below.refl _ _) | (with_reducible refine below_call ?_ (by assumption) (by first | omega | (simp <;> omega))) | (with_reducible refine below_call ?_ (Drew.below (by assumption) _) (by first | omega | (simp <;> omega)))))⟩
      | cons y l =>
        have hn0 : ((n : Int) == 0) = false := by rw [beq_eq_false_iff_ne]; have := hn.out; simp at this; omega
        have HX := Lib.hid hx
        have HOK := Lib.hid hok
        have hn1 : Aside (l.length + 1 = n) := hn.out
        unfold nearV
        have eg : Enters Try.prog 108 := enters_of Try.func108 (by kernel_rfl) rfl
        have HEG := Lib.hid eg
        generalize hres : nearB x y l = m
        obtain ⟨m0, m1⟩ := m
        have Hres := Lib.hid hres
        clear hm hx hok h0 hbt eg hres
        go_enter Try.func42, Try.ntmps42
        go_wp2_with fail
        refine (hC _ ((by (try show Below _ _ _); repeat (first | (with_reducible refine Below.setCell ?_ (by first | omega | (simp <;> omega)) _) | (with_reducible refine Below.alloc ?_ (by first | omega | (simp <;> omega)) _) | (with_reducible refine Below.drew ?_) | (with_reducible exact Below.refl _ _) | (with_reducible exact Below.refl _ _) | (with_reducible refine below_call ?_ (by assumption) (by first | omega | (simp <;> omega))) | (with_reducible refine below_call ?_ (Drew.below (by assumption) _) (by first | omega | (simp <;> omega))))))).mono ?_
        rintro e w1 ⟨rfl, hb1⟩
        have hz1 := hb1.size
        try simp only [World.size_alloc, World.size_setCell, World.size_drew] at hz1
        have hc1_0 := fun o => hb1.cell (p := ⟨w.heap.size, o, none⟩) (by show w.heap.size < _; first | omega | (simp only [World.size_alloc, World.size_setCell, World.size_drew]; omega))
        have hf1_0 := fun o => hb1.frozen (p := ⟨w.heap.size, o, none⟩) (by show w.heap.size < _; first | omega | (simp only [World.size_alloc, World.size_setCell, World.size_drew]; omega))
        have hz1_0 : w.heap.size < w1.heap.size := by omega
        go_wp2_with fail
        refine (hI _ _ (Ints.of1 (by simp [go_sem, hc1_0]) (by simp))).mono ?_
        rintro e w2 ⟨rfl, hb2⟩
        have hz2 := hb2.size
        try simp only [World.size_alloc, World.size_setCell, World.size_drew] at hz2
        have hc2_0 := fun o => hb2.cell (p := ⟨w.heap.size, o, none⟩) (by show w.heap.size < _; first | omega | (simp only [World.size_alloc, World.size_setCell, World.size_drew]; omega))
        have hf2_0 := fun o => hb2.frozen (p := ⟨w.heap.size, o, none⟩) (by show w.heap.size < _; first | omega | (simp only [World.size_alloc, World.size_setCell, World.size_drew]; omega))
        have hz2_0 : w.heap.size < w2.heap.size := by omega
        have c0 : w2.cell? ⟨w.heap.size, 0, none⟩ = some (.int .i64 x) := by simp [go_sem, hc2_0, hc1_0, hz1_0]
        have HB2 : Below w.heap.size w w2 := (by (try show Below _ _ _); repeat (first | (with_reducible refine Below.setCell ?_ (by first | omega | (simp <;> omega)) _) | (with_reducible refine Below.alloc ?_ (by first | omega | (simp <;> omega)) _) | (with_reducible refine Below.drew ?_) | (with_reducible exact Below.refl _ _) | (with_reducible refine below_call ?_ (by assumption) (by first | omega | (simp <;> omega))) | (with_reducible refine below_call ?_ (Drew.below (by assumption) _) (by first | omega | (simp <;> omega)))))
        clear hc2_0 hc1_0 hf1_0 hf2_0 hb1 hb2 hC hI
        go_wp2_with fail
        generalize hq : World.alloc w2 _ = wx
        have c1 : wx.cell? ⟨w.heap.size, 0, none⟩ = some (.int .i64 x) := by rw [← hq]; simp [go_sem, c0, hz2_0]
        have c2 : wx.cell? ⟨w2.heap.size, 0, none⟩ = some (.func (.func 106) #[] #[.pointer (some ⟨w.heap.size, 0, none⟩)]) := by rw [← hq]; simp [go_sem]
        have hzx : wx.heap.size = w2.heap.size + 1 := by rw [← hq]; simp
        have hBx : Below w.heap.size w wx := by rw [← hq]; exact (by (try show Below _ _ _); repeat (first | (with_reducible refine Below.setCell ?_ (by first | omega | (simp <;> omega)) _) | (with_reducible refine Below.alloc ?_ (by first | omega | (simp <;> omega)) _) | (with_reducible refine Below.drew ?_) | (with_reducible exact Below.refl _ _) | (with_reducible exact HB2) | (with_reducible refine below_call ?_ (by assumption) (by first | omega | (simp <;> omega))) | (with_reducible refine below_call ?_ (Drew.below (by assumption) _) (by first | omega | (simp <;> omega)))))
        have hzz : w2.heap.size < wx.heap.size := by omega
        have hzw : w.heap.size < wx.heap.size := by omega
        have hp : CmpB Try.prog 108 #[.pointer (some ⟨w2.heap.size, 0, none⟩)] (fun a b => farR x a - farR x b) (fun r => okR r = true) wx := by
          intro a b W ha hb hW
          obtain ⟨a0, a1⟩ := a
          obtain ⟨b0, b1⟩ := b
          have ka := (okR_iff _).1 ha
          have kb := (okR_iff _).1 hb
          simp only at ka kb
          exact near2_any a0 a1 b0 b1 x w.heap.size w2.heap.size W ((hW.cell (p := ⟨w2.heap.size, 0, none⟩) hzz).trans c2) (Nat.lt_of_lt_of_le hzz hW.size) ((hW.cell (p := ⟨w.heap.size, 0, none⟩) hzw).trans c1) (Nat.lt_of_lt_of_le hzw hW.size) (by omega) (by omega) (by omega) (by omega) hxb
        have hM := minFunc_any 108 #[.pointer (some ⟨w2.heap.size, 0, none⟩)] (fun a b => farR x a - farR x b) (fun r => okR r = true) lo A n c y l wx HEG.out (HX.out.below hBx (Nat.le_refl _)) hn1 hl (fun r hr => HOK.out r hr) hp
        change Calls _ _ _ _ (fun e w' => e = .returned (nearB x y l).val ∧ _) at hM
        rw [Hres.out] at hM
        simp only [R.val] at hM
        clear hq c0 c2 hzx hp
        refine hM.mono ?_
        rintro e w3 ⟨rfl, hb3⟩
        have c3 := (hb3.cell (p := ⟨w.heap.size, 0, none⟩) hzw).trans c1
        have hz3 := hb3.size
        have hz30 : w.heap.size < w3.heap.size := by omega
        clear c1
        go_wp2
        go_ret2
        exact ⟨by rw [Hres.out]; rfl, (by (try show Below _ _ _); repeat (first | (with_reducible refine Below.setCell ?_ (by first | omega | (simp <;> omega)) _) | (with_reducible refine Below.alloc ?_ (by first | omega | (simp <;> omega)) _) | (with_reducible refine Below.drew ?_) | (with_reducible exact Below.refl _ _) | (with_reducible exact hBx) | (with_reducible refine below_call ?_ hb3 (by first | omega | (simp <;> omega))) | (with_reducible refine below_call ?_ (Drew.below hb3 _) (by first | omega | (simp <;> omega)))))⟩
  · have e : nearS xs x = (0, setS xs) := by unfold nearS; rw [if_neg h0]
    rw [e]
    generalize setS xs = ck at hC h0 ⊢
    have hck : (ck != 0) = true := by rw [bne_iff_ne]; exact h0
    clear h0 e hx hI
    go_enter Try.func42, Try.ntmps42
    go_wp2_with fail
    refine (hC _ ((by (try show Below _ _ _); repeat (first | (with_reducible refine Below.setCell ?_ (by first | omega | (simp <;> omega)) _) | (with_reducible refine Below.alloc ?_ (by first | omega | (simp <;> omega)) _) | (with_reducible refine Below.drew ?_) | (with_reducible exact Below.refl _ _) | (with_reducible exact Below.refl _ _) | (with_reducible refine below_call ?_ (by assumption) (by first | omega | (simp <;> omega))) | (with_reducible refine below_call ?_ (Drew.below (by assumption) _) (by first | omega | (simp <;> omega))))))).mono ?_
    rintro e w1 ⟨rfl, hb1⟩
    have hz1 := hb1.size
    try simp only [World.size_alloc, World.size_setCell, World.size_drew] at hz1
    have hc1_0 := fun o => hb1.cell (p := ⟨w.heap.size, o, none⟩) (by show w.heap.size < _; first | omega | (simp only [World.size_alloc, World.size_setCell, World.size_drew]; omega))
    have hf1_0 := fun o => hb1.frozen (p := ⟨w.heap.size, o, none⟩) (by show w.heap.size < _; first | omega | (simp only [World.size_alloc, World.size_setCell, World.size_drew]; omega))
    have hz1_0 : w.heap.size < w1.heap.size := by omega
    go_wp2
    go_ret2
    exact ⟨rfl, (by (try show Below _ _ _); repeat (first | (with_reducible refine Below.setCell ?_ (by first | omega | (simp <;> omega)) _) | (with_reducible refine Below.alloc ?_ (by first | omega | (simp <;> omega)) _) | (with_reducible refine Below.drew ?_) | (with_reducible exact Below.refl _ _) | (with_reducible refine below_call ?_ (by assumption) (by first | omega | (simp <;> omega))) | (with_reducible refine below_call ?_ (Drew.below (by assumption) _) (by first | omega | (simp <;> omega)))))⟩

end Go.Proofs.Ytfohdafijfjefaa
