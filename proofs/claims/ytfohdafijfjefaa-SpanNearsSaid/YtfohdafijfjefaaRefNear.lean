/- Contract: reference Near. -/
import Derived.Test.YtfohdafijfjefaaRefSet
set_option linter.unusedSimpArgs false
set_option linter.unusedVariables false
namespace Go.Proofs.Ytfohdafijfjefaa
open Go.RowKit Go.Shelf
attribute [local go_sem ↓] Go.wp_at_zero Go.wp_at_succ

def clampR (x : Int) (r : R) : Int := min (max x r.lo) r.hi
theorem clamp_far (x : Int) (r : R) (h : r.lo ≤ r.hi) : ((clampR x r - x).natAbs : Int) = farR x r := by
  unfold clampR farR; omega

def bestV (x : Int) (y : R) (l : List R) : Nat → Int
  | 0 => 0
  | k + 1 => clampR x (nearB x y (l.take k))

set_option maxRecDepth 100000 in
set_option maxHeartbeats 1000000 in
theorem refNear_any (lo : Nat) (A : Option Addr) (n c : Nat) (y : R) (l : List R) (x : Int) (w : World) (hx : Ranges w lo A (y :: l)) (hn : Aside (l.length + 1 = n)) (hl : n ≤ maxLen) (hok : Aside (∀ r ∈ y :: l, okR r = true)) (hxb : -1000000000000000 ≤ x ∧ x ≤ 1000000000000000) :
    Calls Try.prog 46 #[.slice A n c, .int .i64 x] w fun e w' => e = .returned (.int .i64 (clampR x (nearB x y l))) ∧ Drew w w' := by
  unfold maxLen at hl
  have HX := Lib.hid hx
  generalize hres : clampR x (nearB x y l) = res
  have Hres := Lib.hid hres
  clear hx hres
  go_enter Try.func46, Try.ntmps46
  go_wp2
  go_loopg [5, 6] (n) (fun gg s5 i wr => ∃ k : Nat, k ≤ n ∧ n - k ≤ gg ∧ i = .int .i64 k ∧ s5 = .int .i64 (bestV x y l k) ∧ Aside (Drew w wr))
  case atStart => exact ⟨0, Nat.zero_le _, Nat.le_refl _, rfl, rfl, Drew.refl _⟩
  case round =>
    obtain ⟨k, hk, hg, rfl, rfl, hd⟩ := hrel
    have hdb := hd.out.below (w.heap.size)
    have hds := hd.out.size
    by_cases hlt : k < n
    · obtain ⟨b, o, rfl, _, hlb, hc⟩ := HX.out (by simp)
      have x0 := (hdb.cell (p := ⟨b, o + k * 2 + 0, none⟩) hlb).trans (hc k 0 (by simp; have := hn.out; omega) (by omega))
      have x1 := (hdb.cell (p := ⟨b, o + k * 2 + 1, none⟩) hlb).trans (hc k 1 (by simp; have := hn.out; omega) (by omega))
      have hbw : b < wr.heap.size := by omega
      have okk := (okR_iff _).1 (hok.out ((y :: l)[k]?.getD R.d) (by rw [List.getElem?_eq_getElem (by simp; have := hn.out; omega)]; exact List.getElem_mem _))
      clear hc hdb
      have hltz : (k : Int) < (n : Int) := by omega
      have hk0 : (0 : Int) ≤ (k : Int) := by omega
      rcases Nat.eq_zero_or_pos k with hkz | hkz
      · subst hkz
        simp only [List.getElem?_cons_zero, Option.getD_some] at x0 x1 okk
        have hb1 : bestV x y l (0 + 1) = min (max x y.lo) y.hi := rfl
        have Hb1 := Lib.hid hb1
        clear hb1
        obtain ⟨r0, r1⟩ := y
        simp only [R.cell, Nat.zero_mul, Nat.add_zero, if_true, Nat.one_ne_zero, if_false] at x0 x1 okk
        go_wp2_with fail
        go_still_tail 13, (by kernel_rfl)
        change wpList _ _ _ _ _ wr.drew
        have hD : Drew w wr.drew := (by obtain ⟨m, hm⟩ := hd.out; exact ⟨m + 1, by rw [hm]; rfl⟩)
        generalize wr.drew = wd at hD ⊢
        go_wp2
        go_roundg (n - (0 + 1))
        case measure => omega
        case rel => exact ⟨0 + 1, by omega, by omega, by go_num, by rw [Hb1.out], hD⟩
      · obtain ⟨j, rfl⟩ : ∃ j, k = j + 1 := ⟨k - 1, by omega⟩
        have hjl : j < l.length := by have := hn.out; omega
        have hbn : bestV x y l (j + 1 + 1) = if farR x (l[j]?.getD R.d) - farR x (nearB x y (l.take j)) < 0 then clampR x (l[j]?.getD R.d) else bestV x y l (j + 1) := by
          show clampR x (nearB x y (l.take (j + 1))) = if farR x (l[j]?.getD R.d) - farR x (nearB x y (l.take j)) < 0 then clampR x (l[j]?.getD R.d) else clampR x (nearB x y (l.take j))
          unfold nearB minF
          rw [List.take_succ_eq_append_getElem hjl, List.foldl_append]
          simp only [List.foldl_cons, List.foldl_nil, List.getElem?_eq_getElem hjl, Option.getD_some]
          split <;> rfl
        have okm : okR (nearB x y (l.take j)) = true := by
          refine hok.out _ ?_
          have := minF_mem (fun a b => farR x a - farR x b) y (l.take j)
          unfold nearB
          simp at this ⊢
          rcases this with h | h
          · exact .inl h
          · exact .inr (List.mem_of_mem_take h)
        have km := (okR_iff _).1 okm
        have hb0 : bestV x y l (j + 1) = clampR x (nearB x y (l.take j)) := rfl
        clear hkz okm
        simp only [List.getElem?_cons_succ] at x0 x1 okk
        generalize l[j]?.getD R.d = r at x0 x1 okk hbn
        generalize nearB x y (l.take j) = m at hbn km hb0
        have f1 := clamp_far x r okk.2.1
        have f2 := clamp_far x m km.2.1
        rw [← hb0] at f2
        have c2 : -1000000000000000 ≤ bestV x y l (j + 1) ∧ bestV x y l (j + 1) ≤ 1000000000000000 := by rw [hb0]; unfold clampR; omega
        generalize bestV x y l (j + 1) = bv at *
        obtain ⟨r0, r1⟩ := r
        simp only [R.cell, Nat.add_zero, if_true, Nat.one_ne_zero, if_false] at x0 x1 okk
        have c1 : -1000000000000000 ≤ clampR x ⟨r0, r1⟩ ∧ clampR x ⟨r0, r1⟩ ≤ 1000000000000000 := by unfold clampR; simp only; omega
        have hcl : min (max x r0) r1 = clampR x ⟨r0, r1⟩ := rfl
        have a1 := fun W => abs_any (clampR x ⟨r0, r1⟩ - x) (by omega) W
        have a2 := fun W => abs_any (bv - x) (by omega) W
        rw [f1] at a1
        rw [f2] at a2
        generalize clampR x ⟨r0, r1⟩ = cv at *
        generalize farR x ⟨r0, r1⟩ = fr at *
        generalize farR x m = fm at *
        have Hbn := Lib.hid hbn
        have hj0 : ((j : Int) + 1 == 0) = false := by rw [beq_eq_false_iff_ne]; omega
        have hj2 : (0 : Int) ≤ (j : Int) + 1 := by omega
        have hj3 : (j : Int) + 1 < (n : Int) := by omega
        have hj4 : j + 1 < n := hlt
        clear hbn f1 f2 hb0
        by_cases hcmp : fr < fm
        · go_wp2_with fail
          go_still_tail 13, (by kernel_rfl)
          change wpList _ _ _ _ _ wr.drew
          have hD : Drew w wr.drew := (by obtain ⟨m, hm⟩ := hd.out; exact ⟨m + 1, by rw [hm]; rfl⟩)
          generalize wr.drew = wd at hD ⊢
          go_wp2_with fail
          refine (a1 _).mono ?_
          rintro e w0x ⟨rfl, rfl⟩
          go_wp2_with fail
          refine (a2 _).mono ?_
          rintro e w0x ⟨rfl, rfl⟩
          go_wp2
          go_roundg (n - (j + 1 + 1))
          case measure => omega
          case rel => exact ⟨j + 1 + 1, by omega, by omega, by go_num, by rw [Hbn.out, if_pos (by omega)], hD⟩
        · go_wp2_with fail
          go_still_tail 13, (by kernel_rfl)
          change wpList _ _ _ _ _ wr.drew
          have hD : Drew w wr.drew := (by obtain ⟨m, hm⟩ := hd.out; exact ⟨m + 1, by rw [hm]; rfl⟩)
          generalize wr.drew = wd at hD ⊢
          go_wp2_with fail
          refine (a1 _).mono ?_
          rintro e w0x ⟨rfl, rfl⟩
          go_wp2_with fail
          refine (a2 _).mono ?_
          rintro e w0x ⟨rfl, rfl⟩
          go_wp2
          go_roundg (n - (j + 1 + 1))
          case measure => omega
          case rel => exact ⟨j + 1 + 1, by omega, by omega, by go_num, by rw [Hbn.out, if_neg (by omega)], hD⟩
    · have hltz : ¬ (k : Int) < (n : Int) := by omega
      have hke : k = l.length + 1 := by have := hn.out; omega
      have hb : bestV x y l k = res := by
        rw [hke]
        show clampR x (nearB x y (l.take l.length)) = res
        rw [List.take_length]
        exact Hres.out
      have Hb := Lib.hid hb
      clear hb hke
      go_wp2
      go_ret
      exact ⟨by rw [← Hb.out]; rfl, hd.out⟩

end Go.Proofs.Ytfohdafijfjefaa
