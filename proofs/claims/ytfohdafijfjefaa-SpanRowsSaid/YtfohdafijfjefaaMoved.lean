/- Contracts: span.moved, Widen, Narrow. -/
import Derived.Test.YtfohdafijfjefaaSetsW
import Derived.Test.YtfohdafijfjefaaMM
set_option linter.unusedSimpArgs false
set_option linter.unusedVariables false
namespace Go.Proofs.Ytfohdafijfjefaa
open Go.RowKit Go.Shelf
attribute [local go_sem ↓] Go.wp_at_zero Go.wp_at_succ

def movedStep (o : Int) (acc : List R) (r : R) : List R :=
  if max (r.lo - o) (-1000000000000000) ≤ min (r.hi + o) 1000000000000000 then addR acc ⟨max (r.lo - o) (-1000000000000000), min (r.hi + o) 1000000000000000⟩ else acc
def movedL (o : Int) (xs : List R) : List R := xs.foldl (movedStep o) []
theorem movedL_snoc (o : Int) (xs : List R) (k : Nat) (hk : k < xs.length) : movedL o (xs.take (k + 1)) = movedStep o (movedL o (xs.take k)) (xs[k]?.getD R.d) := by
  unfold movedL
  rw [List.take_succ_eq_append_getElem hk, List.foldl_append]
  simp [List.getElem?_eq_getElem hk]

def movedS (xs : List R) (b o : Int) : List R × Int := if setS xs = 0 then (if btw 0 1000000000000000 [b] = true then (movedL o xs, 0) else ([], 3)) else ([], setS xs)

theorem froze1 {w w' : World} {o : Obj} (h : w.alloc o = w') : Below w.heap.size w w' := h ▸ (Below.refl _ _).alloc (Nat.le_refl _) _

set_option maxRecDepth 100000 in
set_option maxHeartbeats 2000000 in
theorem moved_any (lo : Nat) (A : Option Addr) (n c : Nat) (xs : List R) (b o : Int) (w : World) (hx : Ranges w lo A xs) (hn : Aside (xs.length = n)) (hl : n ≤ maxLen) (ho : 0 ≤ b → b ≤ 1000000000000000 → -1000000000000000 ≤ o ∧ o ≤ 1000000000000000) :
    Calls Try.prog 105 #[.slice A n c, .int .i64 b, .int .i64 o] w (RetPost w (movedS xs b o)) := by
  have hC := fun (W : World) (h : Below w.heap.size w W) => CheckSet_any lo A n c xs W (hx.below h (Nat.le_refl _)) hn hl
  have hI := fun (A : Option Addr) (W : World) h => span_within 0 1000000000000000 0 A 1 1 [b] W h rfl one_le
  unfold maxLen at hl
  by_cases h0 : setS xs = 0
  · have hm : movedS xs b o = if btw 0 1000000000000000 [b] = true then (movedL o xs, 0) else ([], 3) := by unfold movedS; rw [if_pos h0]
    obtain ⟨h200, hok⟩ := setS_ok h0
    rw [h0] at hC
    cases hbt : btw 0 1000000000000000 [b] with
    | false =>
      rw [hbt, if_neg (by decide)] at hm
      rw [hbt] at hI
      rw [hm]
      clear hm hx hok h0 hbt ho
      go_enter Try.func105, Try.ntmps105
      go_wp2_with fail
      refine (hC _ (Below.refl _ _)).mono ?_
      rintro e w1 ⟨rfl, hb1⟩
      have hz1 := hb1.size
      try simp only [World.size_alloc, World.size_setCell, World.size_drew] at hz1
      go_wp2_with fail
      refine (hI _ _ (Ints.of1 (by simp [go_sem]) (by simp))).mono ?_
      rintro e w2 ⟨rfl, hb2⟩
      have hz2 := hb2.size
      try simp only [World.size_alloc, World.size_setCell, World.size_drew] at hz2
      go_wp2
      go_ret2
      exact ⟨.slice none 0 0, rfl, OwnR.nil _ _, fun _ => rfl, (by (try show Below _ _ _); repeat (first | (with_reducible refine Below.setCell ?_ (by first | omega | (simp <;> omega)) _) | (with_reducible refine Below.alloc ?_ (by first | omega | (simp <;> omega)) _) | (with_reducible refine Below.drew ?_) | (with_reducible exact Below.refl _ _) | (with_reducible refine below_call ?_ (by assumption) (by first | omega | (simp <;> omega))) | (with_reducible refine below_call ?_ (Drew.below (by assumption) _) (by first | omega | (simp <;> omega)))))⟩
    | true =>
      rw [hbt, if_pos rfl] at hm
      rw [hbt] at hI
      obtain ⟨b0, b1⟩ := (btw1 _ _ _).1 hbt
      obtain ⟨o0, o1⟩ := ho b0 b1
      have hn200 : n ≤ 200 := by have := hn.out; omega
      have HX := Lib.hid hx
      have HOK := Lib.hid hok
      generalize hres : movedS xs b o = res at hm ⊢
      have Hres := Lib.hid hm
      clear hm hres hx hok h0 hbt ho
      go_enter Try.func105, Try.ntmps105
      go_wp2_with fail
      refine (hC _ (Below.refl _ _)).mono ?_
      rintro e w1 ⟨rfl, hb1⟩
      have hz1 := hb1.size
      try simp only [World.size_alloc, World.size_setCell, World.size_drew] at hz1
      go_wp2_with fail
      refine (hI _ _ (Ints.of1 (by simp [go_sem]) (by simp))).mono ?_
      rintro e w2 ⟨rfl, hb2⟩
      have hz2 := hb2.size
      try simp only [World.size_alloc, World.size_setCell, World.size_drew] at hz2
      have HB2 : Below w.heap.size w w2 := (by (try show Below _ _ _); repeat (first | (with_reducible refine Below.setCell ?_ (by first | omega | (simp <;> omega)) _) | (with_reducible refine Below.alloc ?_ (by first | omega | (simp <;> omega)) _) | (with_reducible refine Below.drew ?_) | (with_reducible exact Below.refl _ _) | (with_reducible refine below_call ?_ (by assumption) (by first | omega | (simp <;> omega))) | (with_reducible refine below_call ?_ (Drew.below (by assumption) _) (by first | omega | (simp <;> omega)))))
      have hz : w.heap.size ≤ w2.heap.size := HB2.size
      clear hb1 hb2 hC hI
      go_wp2
      go_loopg [23] (n) (fun gg i wr => ∃ k : Nat, k ≤ n ∧ n - k ≤ gg ∧ i = .int .i64 k ∧ Aside (CmI w2 (movedL o (xs.take k)) k wr))
      case atStart =>
        exact ⟨0, Nat.zero_le _, Nat.le_refl _, rfl, { below := (by (try show Below _ _ _); repeat (first | (with_reducible refine Below.setCell ?_ (by first | omega | (simp <;> omega)) _) | (with_reducible refine Below.alloc ?_ (by first | omega | (simp <;> omega)) _) | (with_reducible refine Below.drew ?_) | (with_reducible exact Below.refl _ _) | (with_reducible refine below_call ?_ (by assumption) (by first | omega | (simp <;> omega))) | (with_reducible refine below_call ?_ (Drew.below (by assumption) _) (by first | omega | (simp <;> omega))))), size := by simp, bf := by simp [go_sem], box := ⟨.slice none 0 0, by simp [go_sem], OwnR.nil _ _, fun _ => rfl⟩, bd := fun x hx => absurd hx (by simp [movedL]), len := by simp [movedL] }⟩
      case round =>
        obtain ⟨k, hk, hg, rfl, I⟩ := hrel
        have hsz := I.out.size
        by_cases hlt : k < n
        · obtain ⟨bk, ofs, rfl, _, hlb, hc⟩ := HX.out (by have := hn.out; omega)
          have hlb2 : bk < w2.heap.size := by omega
          have x0 := (I.out.below.cell (p := ⟨bk, ofs + k * 2 + 0, none⟩) hlb2).trans ((HB2.cell (p := ⟨bk, ofs + k * 2 + 0, none⟩) hlb).trans (hc k 0 (by have := hn.out; omega) (by omega)))
          have x1 := (I.out.below.cell (p := ⟨bk, ofs + k * 2 + 1, none⟩) hlb2).trans ((HB2.cell (p := ⟨bk, ofs + k * 2 + 1, none⟩) hlb).trans (hc k 1 (by have := hn.out; omega) (by omega)))
          have hsn := movedL_snoc o xs k (by have := hn.out; omega)
          have okk := (okR_iff _).1 (show okR (xs[k]?.getD R.d) = true from by rw [List.getElem?_eq_getElem (by have := hn.out; omega)]; exact HOK.out _ (List.getElem_mem _))
          have I' := I.out
          clear hc I
          generalize xs[k]?.getD R.d = r at x0 x1 hsn okk
          obtain ⟨r0, r1⟩ := r
          simp only [R.cell, Nat.add_zero, if_true, Nat.one_ne_zero, if_false] at x0 x1 okk
          generalize hacc : movedL o (xs.take k) = acc at hsn I'
          have Hsn := Lib.hid hsn
          have II := Lib.hid I'
          clear hsn I' hacc
          have hltz : (k : Int) < (n : Int) := by omega
          have hk0 : (0 : Int) ≤ (k : Int) := by omega
          by_cases hm : max (r0 - o) (-1000000000000000) ≤ min (r1 + o) 1000000000000000
          · go_wp2_with fail
            generalize hq : World.alloc wr _ = wx
            have hbx := froze1 hq
            clear hq
            have J := II.out.later hbx
            obtain ⟨v, v1, v2, v3⟩ := J.box
            have hzx := hbx.size
            have hadd := add_any (w2.heap.size + 1) w2.heap.size v acc (max (r0 - o) (-1000000000000000)) (min (r1 + o) 1000000000000000) wx (by omega) (by omega) v1 J.bf v2 v3 (by have := J.len; omega) J.bd
            have JJ := Lib.hid J
            clear v1 v2 v3 J
            refine hadd.mono ?_
            rintro e w4 ⟨⟨u, rfl⟩, ha⟩
            have K := Lib.hid (JJ.out.added ha (by simp only; omega))
            clear ha hadd
            go_wp2
            go_roundg (n - (k + 1))
            case measure => omega
            case rel =>
              refine ⟨k + 1, by omega, by omega, by go_num, ?_⟩
              rw [Hsn.out]
              unfold movedStep
              simp only [if_pos hm]
              exact K.out
          · have hmf : min (r1 + o) 1000000000000000 < max (r0 - o) (-1000000000000000) := by omega
            go_wp2
            go_roundg (n - (k + 1))
            case measure => omega
            case rel =>
              refine ⟨k + 1, by omega, by omega, by go_num, ?_⟩
              rw [Hsn.out]
              unfold movedStep
              rw [if_neg (show ¬ (max (r0 - o) (-1000000000000000) ≤ min (r1 + o) 1000000000000000) by omega)]
              refine (CmI.later II.out ?_).step (by omega)
              exact (by (try show Below _ _ _); repeat (first | (with_reducible refine Below.setCell ?_ (by first | omega | (simp <;> omega)) _) | (with_reducible refine Below.alloc ?_ (by first | omega | (simp <;> omega)) _) | (with_reducible refine Below.drew ?_) | (with_reducible exact Below.refl _ _) | (with_reducible exact Below.refl _ _) | (with_reducible refine below_call ?_ (by assumption) (by first | omega | (simp <;> omega))) | (with_reducible refine below_call ?_ (Drew.below (by assumption) _) (by first | omega | (simp <;> omega)))))
        · have hltz : ¬ (k : Int) < (n : Int) := by omega
          have hke : k = n := by omega
          subst hke
          have htk : xs.take k = xs := List.take_of_length_le (by have := hn.out; omega)
          rw [htk] at I
          obtain ⟨v, v1, v2, v3⟩ := I.out.box
          have hbe := HB2.trans (I.out.below.mono hz)
          obtain ⟨Av, cv, hvv, _, _, _⟩ := v2.reads
          subst hvv
          have V2 := Lib.hid v2
          have V3 := Lib.hid v3
          have hr := Hres.out
          clear v2 v3 I htk Hres
          generalize movedL o xs = acc at *
          generalize hna : acc.length = na at *
          have Hna := Lib.hid hna
          have HR := Lib.hid hr
          clear hr hna
          go_wp2
          go_ret2
          refine ⟨.slice Av na cv, by rw [HR.out]; rfl, ?_, ?_, hbe⟩
          · rw [HR.out]; exact OwnR.base V2.out (by omega)
          · rw [HR.out]; exact V3.out
  · have e : movedS xs b o = ([], setS xs) := by unfold movedS; rw [if_neg h0]
    rw [e]
    generalize setS xs = ck at hC h0 ⊢
    have hck : (ck != 0) = true := by rw [bne_iff_ne]; exact h0
    clear h0 e hx ho hI
    go_enter Try.func105, Try.ntmps105
    go_wp2_with fail
    refine (hC _ (Below.refl _ _)).mono ?_
    rintro e w1 ⟨rfl, hb1⟩
    have hz1 := hb1.size
    try simp only [World.size_alloc, World.size_setCell, World.size_drew] at hz1
    go_wp2
    go_ret2
    exact ⟨.slice none 0 0, rfl, OwnR.nil _ _, fun _ => rfl, (by (try show Below _ _ _); repeat (first | (with_reducible refine Below.setCell ?_ (by first | omega | (simp <;> omega)) _) | (with_reducible refine Below.alloc ?_ (by first | omega | (simp <;> omega)) _) | (with_reducible refine Below.drew ?_) | (with_reducible exact Below.refl _ _) | (with_reducible refine below_call ?_ (by assumption) (by first | omega | (simp <;> omega))) | (with_reducible refine below_call ?_ (Drew.below (by assumption) _) (by first | omega | (simp <;> omega)))))⟩

set_option maxHeartbeats 400000 in
theorem Widen_any (lo : Nat) (A : Option Addr) (n c : Nat) (xs : List R) (b : Int) (w : World) (hx : Ranges w lo A xs) (hn : Aside (xs.length = n)) (hl : n ≤ maxLen) :
    Calls Try.prog 40 #[.slice A n c, .int .i64 b] w (RetPost w (movedS xs b b)) := by
  have hM := moved_any lo A n c xs b b w hx hn hl (fun h1 h2 => by omega)
  generalize movedS xs b b = res at hM ⊢
  clear hx hn
  go_enter Try.func40, Try.ntmps40
  go_wp2_with fail
  refine hM.mono ?_
  rintro e w1 ⟨v, rfl, h1, h2, h3⟩
  obtain ⟨Av, cv, hvv, _, _, _⟩ := h1.reads
  subst hvv
  have H1 := Lib.hid h1
  have H2 := Lib.hid h2
  clear h1 h2
  generalize res.1.length = na at *
  go_wp2
  go_ret2
  exact ⟨_, rfl, H1.out, H2.out, h3⟩

theorem movedS_bad (xs : List R) (b o o' : Int) (h : btw 0 1000000000000000 [b] = false) : movedS xs b o = movedS xs b o' := by
  unfold movedS
  rw [h]
  simp

theorem movedS_neg (xs : List R) (b : Int) : movedS xs b (wrap64 (-b)) = movedS xs b (-b) := by
  cases h : btw 0 1000000000000000 [b] with
  | false => exact movedS_bad xs b _ _ h
  | true =>
    have := (btw1 _ _ _).1 h
    rw [IntWalk.wrap64_in (-b) ⟨by omega, by omega⟩]

set_option maxHeartbeats 400000 in
theorem Narrow_any (lo : Nat) (A : Option Addr) (n c : Nat) (xs : List R) (b : Int) (w : World) (hx : Ranges w lo A xs) (hn : Aside (xs.length = n)) (hl : n ≤ maxLen) :
    Calls Try.prog 41 #[.slice A n c, .int .i64 b] w (RetPost w (movedS xs b (-b))) := by
  have hM := moved_any lo A n c xs b (wrap64 (-b)) w hx hn hl (fun h1 h2 => by rw [IntWalk.wrap64_in (-b) ⟨by omega, by omega⟩]; omega)
  rw [movedS_neg] at hM
  generalize movedS xs b (-b) = res at hM ⊢
  clear hx hn
  go_enter Try.func41, Try.ntmps41
  go_wp2_with fail
  refine hM.mono ?_
  rintro e w1 ⟨v, rfl, h1, h2, h3⟩
  obtain ⟨Av, cv, hvv, _, _, _⟩ := h1.reads
  subst hvv
  have H1 := Lib.hid h1
  have H2 := Lib.hid h2
  clear h1 h2
  generalize res.1.length = na at *
  go_wp2
  go_ret2
  exact ⟨_, rfl, H1.out, H2.out, h3⟩

end Go.Proofs.Ytfohdafijfjefaa
