/- The contract of span.Without. -/
import Derived.Test.YtfohdafijfjefaaSets
set_option linter.unusedSimpArgs false
set_option linter.unusedVariables false
namespace Go.Proofs.Ytfohdafijfjefaa
open Go.RowKit Go.Shelf
attribute [local go_sem ↓] Go.wp_at_zero Go.wp_at_succ

def gapStep (st : Int × List R) (r : R) : Int × List R := (r.hi + 1, if st.1 < r.lo then st.2 ++ [⟨st.1, r.lo - 1⟩] else st.2)
def gapsF (ys : List R) : Int × List R := ys.foldl gapStep (-1000000000000000, [])
def gapsS (ys : List R) : List R := if (gapsF ys).1 ≤ 1000000000000000 then (gapsF ys).2 ++ [⟨(gapsF ys).1, 1000000000000000⟩] else (gapsF ys).2
theorem gapsF_snoc (ys : List R) (k : Nat) (hk : k < ys.length) : gapsF (ys.take (k + 1)) = gapStep (gapsF (ys.take k)) (ys[k]?.getD R.d) := by
  unfold gapsF
  rw [List.take_succ_eq_append_getElem hk, List.foldl_append]
  simp [List.getElem?_eq_getElem hk]
theorem gapsF_bd (ys : List R) (h : ∀ y ∈ ys, okR y = true) (k : Nat) (hk : k ≤ ys.length) : (-1000000000000000 ≤ (gapsF (ys.take k)).1 ∧ (gapsF (ys.take k)).1 ≤ 1000000000000001) ∧ (∀ x ∈ (gapsF (ys.take k)).2, bdR x) ∧ (gapsF (ys.take k)).2.length ≤ k := by
  induction k with
  | zero => simp [gapsF]
  | succ k ih =>
    obtain ⟨i1, i2, i3⟩ := ih (by omega)
    rw [gapsF_snoc ys k (by omega)]
    have hok := (okR_iff _).1 (h _ (by rw [List.getElem?_eq_getElem (by omega)]; exact List.getElem_mem _) : okR (ys[k]?.getD R.d) = true)
    generalize ys[k]?.getD R.d = r at hok ⊢
    generalize gapsF (ys.take k) = st at i1 i2 i3 ⊢
    unfold gapStep
    refine ⟨by simp only; omega, ?_, ?_⟩
    · intro x hx
      simp only at hx
      split at hx
      · rw [List.mem_append] at hx
        rcases hx with hx | hx
        · exact i2 x hx
        · simp at hx; subst hx; unfold bdR; simp only; omega
      · exact i2 x hx
    · simp only
      split
      · simp; omega
      · omega

/-- those of the first alone -/
def withoutS (xs ys : List R) : List R × Int :=
  if checked2 xs ys = 0 then (if 200 < (commonS xs (gapsS ys) []).length then ([], 8) else (commonS xs (gapsS ys) [], 0)) else ([], checked2 xs ys)

/-- a list of one's own, and an error -/
def RetPost (w : World) (p : List R × Int) (e : Ending) (w' : World) : Prop := ∃ v, e = .returned (.tuple #[v, .int .i64 p.2]) ∧ OwnR w' w.heap.size v p.1 ∧ (p.1 = [] → v = .slice none 0 0) ∧ Below w.heap.size w w'

theorem setS_ok {xs : List R} (h : setS xs = 0) : xs.length ≤ 200 ∧ ∀ x ∈ xs, okR x = true := by
  unfold setS at h
  by_cases h1 : 200 < xs.length
  · rw [if_pos h1] at h; simp at h
  · rw [if_neg h1] at h
    cases h2 : xs.all okR with
    | false => rw [h2] at h; simp at h
    | true => exact ⟨by omega, fun x hx => List.all_eq_true.1 h2 x hx⟩
theorem checked2_ok {xs ys : List R} (h : checked2 xs ys = 0) : setS xs = 0 ∧ setS ys = 0 := by
  unfold checked2 at h
  by_cases h1 : setS xs = 0
  · rw [if_pos h1] at h; exact ⟨h1, h⟩
  · rw [if_neg h1] at h; exact absurd h h1

set_option maxRecDepth 100000 in
set_option maxHeartbeats 2000000 in
theorem Without_any (lo : Nat) (A1 : Option Addr) (n1 c1 : Nat) (xs : List R) (A2 : Option Addr) (n2 c2 : Nat) (ys : List R) (w : World) (hx : Ranges w lo A1 xs) (hn1 : Aside (xs.length = n1)) (hl1 : n1 ≤ maxLen) (hy : Ranges w lo A2 ys) (hn2 : Aside (ys.length = n2)) (hl2 : n2 ≤ maxLen) :
    Calls Try.prog 84 #[.slice A1 n1 c1, .slice A2 n2 c2] w (RetPost w (withoutS xs ys)) := by
  have hC := fun (bl : Nat) (W : World) (h : Below w.heap.size w W) => checked_two bl lo A1 n1 c1 xs A2 n2 c2 ys W (hx.below h (Nat.le_refl _)) hn1 hl1 (hy.below h (Nat.le_refl _)) hn2 hl2
  by_cases h0 : checked2 xs ys = 0
  · obtain ⟨o1, o2⟩ := checked2_ok h0
    obtain ⟨o3, o4⟩ := setS_ok o1
    obtain ⟨o5, o6⟩ := setS_ok o2
    have hw : withoutS xs ys = if 200 < (commonS xs (gapsS ys) []).length then ([], 8) else (commonS xs (gapsS ys) [], 0) := by unfold withoutS; rw [if_pos h0]
    rw [h0] at hC
    have Hx := Lib.hid hx
    have Hy := Lib.hid hy
    have O4 := Lib.hid o4
    have O6 := Lib.hid o6
    rw [hn1.out] at o3
    rw [hn2.out] at o5
    generalize hres : withoutS xs ys = res at hw ⊢
    have Hw := Lib.hid hw
    clear hx hy h0 o1 o2 o4 o6 hw hres
    go_enter Try.func84, Try.ntmps84
    go_wp2_with fail
    refine (hC _ _ ((Below.refl _ _).alloc (Nat.le_refl _) _) (by simp [go_sem]) (by simp [go_sem]) (by simp)).mono ?_
    rintro e w1 ⟨rfl, hb1⟩
    have hz1 := hb1.size
    try simp only [World.size_alloc, World.size_setCell, World.size_drew] at hz1
    have hc1_0 := fun o => hb1.cell (p := ⟨w.heap.size, o, none⟩) (by show w.heap.size < _; first | omega | (simp only [World.size_alloc, World.size_setCell, World.size_drew]; omega))
    have hf1_0 := fun o => hb1.frozen (p := ⟨w.heap.size, o, none⟩) (by show w.heap.size < _; first | omega | (simp only [World.size_alloc, World.size_setCell, World.size_drew]; omega))
    have hz1_0 : w.heap.size < w1.heap.size := by omega
    have hB1 : Below w.heap.size w w1 := (by (try show Below _ _ _); repeat (first | (with_reducible refine Below.setCell ?_ (by first | omega | (simp <;> omega)) _) | (with_reducible refine Below.alloc ?_ (by first | omega | (simp <;> omega)) _) | (with_reducible refine Below.drew ?_) | (with_reducible exact Below.refl _ _) | (with_reducible refine below_call ?_ (by assumption) (by first | omega | (simp <;> omega))) | (with_reducible refine below_call ?_ (Drew.below (by assumption) _) (by first | omega | (simp <;> omega)))))
    clear hC hc1_0 hf1_0 hz1_0
    go_wp2
    obtain ⟨i5, hi5, hz5, hs5, hb5⟩ := info_parts infoRange
    go_loopg [7, 8, 20] (n2) (fun gg s7 s8 i wr => ∃ (k : Nat) (v : Value), k ≤ n2 ∧ n2 - k ≤ gg ∧ i = .int .i64 k ∧ s7 = v ∧ s8 = .int .i64 (gapsF (ys.take k)).1 ∧ Aside (OwnR wr w.heap.size v (gapsF (ys.take k)).2) ∧ Aside (Below w.heap.size w wr))
    case atStart => exact ⟨0, _, Nat.zero_le _, Nat.le_refl _, rfl, rfl, rfl, OwnR.nil _ _, hB1⟩
    case round =>
      obtain ⟨k, v, hk, hg, rfl, rfl, rfl, hO, hB⟩ := hrel
      obtain ⟨gb1, gb2, gb3⟩ := gapsF_bd ys O6.out k (by have := hn2.out; omega)
      by_cases hlt : k < n2
      · obtain ⟨b, o, rfl, _, hlb, hc⟩ := Hy.out (by have := hn2.out; omega)
        have hck0 := (hB.out.cell (p := ⟨b, o + k * 2 + 0, none⟩) hlb).trans (hc k 0 (by have := hn2.out; omega) (by omega))
        have hck1 := (hB.out.cell (p := ⟨b, o + k * 2 + 1, none⟩) hlb).trans (hc k 1 (by have := hn2.out; omega) (by omega))
        have hltz : (k : Int) < (n2 : Int) := by omega
        have hsn := gapsF_snoc ys k (by have := hn2.out; omega)
        have hok := (okR_iff _).1 (O6.out _ (by rw [List.getElem?_eq_getElem (by have := hn2.out; omega)]; exact List.getElem_mem _) : okR (ys[k]?.getD R.d) = true)
        clear hc
        generalize ys[k]?.getD R.d = r at hck0 hck1 hsn hok
        obtain ⟨r0, r1⟩ := r
        simp only [R.cell, Nat.add_zero, if_true, Nat.one_ne_zero, if_false] at hck0 hck1 hok
        generalize gapsF (ys.take k) = st at *
        obtain ⟨fr, acc⟩ := st
        simp only at gb1 gb2 gb3 hO
        simp only [gapStep] at hsn
        have Hsn := Lib.hid hsn
        have hbs := hB.out.size
        clear hsn gb2
        obtain ⟨Av, cv, hvv, _, _, _⟩ := hO.out.reads
        subst hvv
        by_cases hgap : fr < r0
        · have hO2 := (hO.out.alloc (.cells #[.int .i64 r0, .int .i64 r1] 23)).alloc (.cells #[.int .i64 fr, .int .i64 (r0 - 1)] 23)
          have hlen := gb3
          unfold OwnR at hO2
          generalize hal : acc.length = m at hO2 hlen hO ⊢
          have hO3 : World.ownsRow _ w.heap.size 23 2 (.slice Av m cv) m (acc.flatMap rCs) := hO2
          have Hal := Lib.hid hal
          have hne := hO.out.lt
          clear hal hO2
          go_wp2_with (at_builtin; (refine wpList_append_lies _ rfl _ _ _ (by rfl) w.heap.size 23 i5 _ 2 16 Try.underlying53 hi5 hz5 hs5 hb5 rfl (by omega) (.slice Av m cv) m (acc.flatMap rCs) (by rfl) hO3 ⟨wr.heap.size + 1, 0, none⟩ 1 1 [.int .i64 fr, .int .i64 (r0 - 1)] (by rfl) (by rfl) (World.news_of_block (cs := #[.int .i64 fr, .int .i64 (r0 - 1)]) (t := 23) (fr := (0, 0)) (by have := heap_alloc_new (wr.alloc (.cells #[.int .i64 r0, .int .i64 r1] 23)) (.cells #[.int .i64 fr, .int .i64 (r0 - 1)] 23); simpa using this)) (by simp [Value.oneCell']) (by omega) (by simp only [maxLen]; omega) (by omega) (by simp; omega) (wr.heap.size + 1 + 1) (by simp) ?_); intro g3 c3 w3 o3 hgrow hat3 hlt3; have k0 : w3.cell? ⟨wr.heap.size, 1, none⟩ = some (.int .i64 r1) := (by rw [hgrow.cell_far _ (by simp <;> omega) (fun e => absurd (hne _ e.symm).2 (Nat.lt_irrefl _))]; simp [go_sem]))
          have hbA : Below w.heap.size w w3 := Below.grown ((hB.out.alloc hbs _).alloc (by simp; omega) _) hgrow (by simp; omega) (fun k e => (hne k e).1)
          go_wp2
          go_roundg (n2 - (k + 1))
          case measure => omega
          case rel =>
            refine ⟨k + 1, _, by omega, by omega, by go_num, rfl, by rw [Hsn.out], ?_, hbA⟩
            rw [Hsn.out]
            simp only [if_pos hgap]
            show OwnR _ _ _ _
            unfold OwnR
            rw [List.length_append, Hal.out, List.flatMap_append]
            exact o3
        · go_wp2
          go_roundg (n2 - (k + 1))
          case measure => omega
          case rel =>
            refine ⟨k + 1, _, by omega, by omega, by go_num, rfl, by rw [Hsn.out], ?_, hB.out.alloc hbs _⟩
            rw [Hsn.out]
            simp only [if_neg (show ¬ fr < r0 by omega)]
            exact hO.out.alloc _
      · obtain rfl : k = n2 := by omega
        have htk : ys.take k = ys := List.take_of_length_le (by have := hn2.out; omega)
        rw [htk] at gb1 gb2 gb3 hO ⊢
        obtain ⟨Av, cv, hvv, _, _, _⟩ := hO.out.reads
        subst hvv
        have hne := hO.out.lt
        have hgs : gapsS ys = if (gapsF ys).1 ≤ 1000000000000000 then (gapsF ys).2 ++ [⟨(gapsF ys).1, 1000000000000000⟩] else (gapsF ys).2 := rfl
        generalize gapsF ys = st at *
        obtain ⟨fr, acc⟩ := st
        simp only at gb1 gb2 gb3 hO hgs hne ⊢
        have hbs := hB.out.size
        have GB2 := Lib.hid gb2
        clear gb2
        generalize hG : gapsS ys = G at *
        clear hG htk
        have hX : ∀ x ∈ xs, bdR x := fun x hx => by
          have := (okR_iff _).1 (O4.out x hx)
          unfold bdR; omega
        have HX := Lib.hid hX
        clear hX
        by_cases hlast : fr ≤ 1000000000000000
        · rw [if_pos hlast] at hgs
          have hO2 := hO.out.alloc (.cells #[.int .i64 fr, .int .i64 1000000000000000] 23)
          unfold OwnR at hO2
          generalize hal : acc.length = m at hO2 gb3 hO hne ⊢
          have Hal := Lib.hid hal
          have Hgs := Lib.hid hgs
          clear hal hgs
          go_wp2_with (at_builtin; (refine wpList_append_lies _ rfl _ _ _ (by rfl) w.heap.size 23 i5 _ 2 16 Try.underlying53 hi5 hz5 hs5 hb5 rfl (by omega) (.slice Av m cv) m (acc.flatMap rCs) (by rfl) hO2 ⟨wr.heap.size, 0, none⟩ 1 1 [.int .i64 fr, .int .i64 1000000000000000] (by rfl) (by rfl) (World.news_of_block (cs := #[.int .i64 fr, .int .i64 1000000000000000]) (t := 23) (fr := (0, 0)) (heap_alloc_new wr _)) (by simp [Value.oneCell']) (by omega) (by simp only [maxLen]; omega) (by omega) (by simp; omega) (wr.heap.size + 1) (by simp) ?_); intro g3 c3 w3 o3 hgrow hat3 hlt3)
          have hbA : Below w.heap.size w w3 := Below.grown (hB.out.alloc hbs _) hgrow (by simp; omega) (fun k e => (hne k e).1)
          have hOG : OwnR w3 w.heap.size (.slice (some ⟨g3, 0, none⟩) (m + 1) c3) G := by
            rw [Hgs.out]
            unfold OwnR
            rw [List.length_append, Hal.out, List.flatMap_append]
            exact o3
          have hGl : G.length = m + 1 := by rw [Hgs.out]; simp [Hal.out]
          have hGb : ∀ x ∈ G, bdR x := by
            rw [Hgs.out]
            intro x hx
            rw [List.mem_append] at hx
            rcases hx with hx | hx
            · exact GB2.out x hx
            · simp at hx; subst hx; unfold bdR; simp only; omega
          have hRG : Ranges w3 0 (some ⟨g3, 0, none⟩) G := by
            obtain ⟨A', c', e', _, _, h'⟩ := hOG.reads
            injection e' with e1
            rw [e1]
            exact h'.mono (Nat.zero_le _)
          clear hOG o3 hgrow hat3 hlt3 hne hO2 hO
          have HGl := Lib.hid hGl
          have HGb := Lib.hid hGb
          have hRX := (Hx.out.below hbA (Nat.le_refl _)).mono (Nat.zero_le lo)
          have hcom := common_any 0 A1 n1 c1 xs (some ⟨g3, 0, none⟩) (m + 1) c3 G w3 hRX hn1 hRG HGl (by omega) HX HGb
          clear hRG hRX hGl hGb
          generalize commonS xs G [] = C at *
          go_wp2_with fail
          refine hcom.mono ?_
          rintro e w6 ⟨v6, rfl, o6, n6, b6⟩
          obtain ⟨A6, c6, hv6, _, _, _⟩ := o6.reads
          subst hv6
          have hl6 : C.length ≤ maxLen := by omega
          have hfu := fun W => full_any A6 C.length c6 hl6 W
          have hw6 := Hw.out
          have hs6 := w3.heap.size
          have hz6 := hbA.size
          by_cases h200 : 200 < C.length
          · rw [if_pos h200] at hfu hw6
            have Hw6 := Lib.hid hw6
            clear hw6
            go_wp2_with fail
            refine (hfu _).mono ?_
            rintro e w0x ⟨rfl, rfl⟩
            go_wp2
            go_ret2
            refine ⟨.slice none 0 0, by rw [Hw6.out]; rfl, by rw [Hw6.out]; exact OwnR.nil _ _, fun _ => rfl, hbA.trans (b6.mono (by omega))⟩
          · rw [if_neg h200] at hfu hw6
            have Hw6 := Lib.hid hw6
            clear hw6
            go_wp2_with fail
            refine (hfu _).mono ?_
            rintro e w0x ⟨rfl, rfl⟩
            go_wp2
            go_ret2
            refine ⟨.slice A6 C.length c6, by rw [Hw6.out]; rfl, by rw [Hw6.out]; exact o6.base (by omega), by rw [Hw6.out]; exact n6, hbA.trans (b6.mono (by omega))⟩
        · rw [if_neg hlast] at hgs
          have hGb : ∀ x ∈ G, bdR x := by rw [hgs]; exact GB2.out
          have hRG : Ranges wr 0 Av G := by
            obtain ⟨A', c', e', _, _, h'⟩ := hO.out.reads
            injection e' with e1
            rw [e1, hgs]
            exact h'.mono (Nat.zero_le _)
          have hGl : G.length = acc.length := by rw [hgs]
          generalize acc.length = m at *
          have hbA := hB.out
          clear hgs hne hO
          have HGl := Lib.hid hGl
          have HGb := Lib.hid hGb
          have hRX := (Hx.out.below hbA (Nat.le_refl _)).mono (Nat.zero_le lo)
          have hcom := common_any 0 A1 n1 c1 xs Av m cv G wr hRX hn1 hRG HGl (by omega) HX HGb
          clear hRG hRX hGl hGb
          generalize commonS xs G [] = C at *
          go_wp2_with fail
          refine hcom.mono ?_
          rintro e w6 ⟨v6, rfl, o6, n6, b6⟩
          obtain ⟨A6, c6, hv6, _, _, _⟩ := o6.reads
          subst hv6
          have hl6 : C.length ≤ maxLen := by omega
          have hfu := fun W => full_any A6 C.length c6 hl6 W
          have hw6 := Hw.out
          have hs6 := wr.heap.size
          have hz6 := hbA.size
          by_cases h200 : 200 < C.length
          · rw [if_pos h200] at hfu hw6
            have Hw6 := Lib.hid hw6
            clear hw6
            go_wp2_with fail
            refine (hfu _).mono ?_
            rintro e w0x ⟨rfl, rfl⟩
            go_wp2
            go_ret2
            refine ⟨.slice none 0 0, by rw [Hw6.out]; rfl, by rw [Hw6.out]; exact OwnR.nil _ _, fun _ => rfl, hbA.trans (b6.mono (by omega))⟩
          · rw [if_neg h200] at hfu hw6
            have Hw6 := Lib.hid hw6
            clear hw6
            go_wp2_with fail
            refine (hfu _).mono ?_
            rintro e w0x ⟨rfl, rfl⟩
            go_wp2
            go_ret2
            refine ⟨.slice A6 C.length c6, by rw [Hw6.out]; rfl, by rw [Hw6.out]; exact o6.base (by omega), by rw [Hw6.out]; exact n6, hbA.trans (b6.mono (by omega))⟩
  · have hck : (checked2 xs ys != 0) = true := by rw [bne_iff_ne]; exact h0
    have hw : withoutS xs ys = ([], checked2 xs ys) := by unfold withoutS; rw [if_neg h0]
    rw [hw]
    generalize checked2 xs ys = ck at *
    clear h0 hw hx hy
    go_enter Try.func84, Try.ntmps84
    go_wp2_with fail
    refine (hC _ _ ((Below.refl _ _).alloc (Nat.le_refl _) _) (by simp [go_sem]) (by simp [go_sem]) (by simp)).mono ?_
    rintro e w1 ⟨rfl, hb1⟩
    have hz1 := hb1.size
    try simp only [World.size_alloc, World.size_setCell, World.size_drew] at hz1
    have hc1_0 := fun o => hb1.cell (p := ⟨w.heap.size, o, none⟩) (by show w.heap.size < _; first | omega | (simp only [World.size_alloc, World.size_setCell, World.size_drew]; omega))
    have hf1_0 := fun o => hb1.frozen (p := ⟨w.heap.size, o, none⟩) (by show w.heap.size < _; first | omega | (simp only [World.size_alloc, World.size_setCell, World.size_drew]; omega))
    have hz1_0 : w.heap.size < w1.heap.size := by omega
    go_wp2
    go_ret2
    exact ⟨.slice none 0 0, rfl, OwnR.nil _ _, fun _ => rfl, (by (try show Below _ _ _); repeat (first | (with_reducible refine Below.setCell ?_ (by first | omega | (simp <;> omega)) _) | (with_reducible refine Below.alloc ?_ (by first | omega | (simp <;> omega)) _) | (with_reducible refine Below.drew ?_) | (with_reducible exact Below.refl _ _) | (with_reducible refine below_call ?_ (by assumption) (by first | omega | (simp <;> omega))) | (with_reducible refine below_call ?_ (Drew.below (by assumption) _) (by first | omega | (simp <;> omega)))))⟩

end Go.Proofs.Ytfohdafijfjefaa
