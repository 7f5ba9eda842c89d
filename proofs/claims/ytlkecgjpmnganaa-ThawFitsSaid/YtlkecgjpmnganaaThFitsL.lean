/- ThawFits: the walk. -/
import Derived.Test.YtlkecgjpmnganaaThFit2
import Derived.Test.YtlkecgjpmnganaaThCoursesN
import Derived.Test.YtlkecgjpmnganaaThRef2
import Derived.Test.YtlkecgjpmnganaaThCopy2
import Derived.Test.YtlkecgjpmnganaaSplit
import Derived.RegionTactic
import Derived.BigQuiet
import Derived.BigRegion
set_option linter.unusedSimpArgs false
set_option linter.unusedVariables false
namespace Go.Proofs.Ytlkecgjpmnganaa
open Go.RowKit Go.Shelf

theorem bt {B : Nat} {a b c : World} (h : Below B a b) (hB : B ≤ a.heap.size) (k : Below b.heap.size b c) : Below B a c := h.trans (k.mono (Nat.le_trans hB h.size))
theorem wpList_append_copy {α : Type} (L : Lay α) {P : Program} {w : World} {ops : Array Oper} {rest : List Oper} {o : Oper} {a : Act} {Q : Exit → Act → World → Prop} (hgd : o.guard = none) (s x : Operand) (t : TypeId)
    (ho : o.op = .call { callee := .builtin .append, args := #[s, x], argTypes := #[t, t] })
    (e : TypeId) (i : TypeInfo) (z : Value) (bytes : Nat) (ht : P.underlying t = some (.slice e)) (hi : P.info? e = some i) (hz : i.zero = some z)
    (hsize : i.size = L.k) (hby : i.bytes = bytes) (hzs : z.cells.size = L.k)
    (b : Nat) (hs : a.eval s = .slice (some ⟨b, 0, none⟩) 0 0) (hown : w.ownsRow b e L.k (.slice (some ⟨b, 0, none⟩) 0 0) 0 [])
    (A : Option Addr) (n c : Nat) (lo : Nat) (gs : List α) (hx : a.eval x = .slice A n c) (hat : L.at w lo A gs) (hn : gs.length = n) (h0 : A = none → n = 0 ∧ c = 0)
    (h63 : n ≤ maxLen) (hbytes : n * bytes ≤ 140737488355328) (hb : b < w.heap.size)
    (h : ∀ A' c' w', L.at w' b A' gs → w.grownBy w' (some b) → n ≤ c' → c' ≤ maxLen → wpList P ops Q rest (a.put o.dst (.slice A' n c')) w') : wpList P ops Q (o :: rest) a w :=
  wpList_plain hgd fun _ hK => wp_append_copy L s x t ho e i z bytes ht hi hz hsize hby hzs b hs hown A n c lo gs hx hat hn h0 h63 hbytes hb (fun A' c' w' h1 h2 h3 h4 => hK _ _ (h A' c' w' h1 h2 h3 h4))

theorem infoSeen : (Try.prog.info? 82).map (fun i => (i.zero, i.size, i.bytes)) = some (some (.int .i64 0), 1, 8) := by kernel_rfl

def wantK (w0 : Int) (ls : List Int) (k : Nat) : Int := if w0 = 0 then (if (ls.take k).all okS then 0 else 2) else w0
theorem wantK_zero (w0 : Int) (ls : List Int) : wantK w0 ls 0 = w0 := by
  unfold wantK
  by_cases h : w0 = 0
  · rw [if_pos h, h]; simp
  · rw [if_neg h]
theorem take_all_succ (ls : List Int) (k : Nat) (hk : k < ls.length) : (ls.take (k + 1)).all okS = ((ls.take k).all okS && okS (ls[k]?.getD 0)) := by
  rw [List.take_succ_eq_append_getElem hk, List.all_append, List.getElem?_eq_getElem hk]
  simp
theorem wantK_keep {w0 : Int} {ls : List Int} {k : Nat} (hk : k < ls.length) (h : wantK w0 ls k ≠ 0) : wantK w0 ls (k + 1) = wantK w0 ls k := by
  unfold wantK at h ⊢
  by_cases h0 : w0 = 0
  · rw [if_pos h0] at h ⊢
    rw [if_pos h0]
    cases ha : (ls.take k).all okS with
    | true => rw [ha] at h; simp at h
    | false => rw [take_all_succ ls k hk, ha]; rfl
  · rw [if_neg h0, if_neg h0]
theorem wantK_next {w0 : Int} {ls : List Int} {k : Nat} (hk : k < ls.length) (h : wantK w0 ls k = 0) : wantK w0 ls (k + 1) = if okS (ls[k]?.getD 0) then 0 else 2 := by
  unfold wantK at h ⊢
  by_cases h0 : w0 = 0
  · rw [if_pos h0] at h ⊢
    cases ha : (ls.take k).all okS with
    | false => rw [ha] at h; simp at h
    | true => rw [take_all_succ ls k hk, ha]; rfl
  · rw [if_neg h0] at h; exact absurd h h0
theorem wantK_full (r : TR) (c i : Int) (ts : List R) (ls : List Int) : wantK (if errT r c i ts = 0 then (if ls.length = ts.length then 0 else 4) else errT r c i ts) ls ls.length = errF r c i ts ls := by
  unfold wantK errF
  rw [List.take_length]
  by_cases h : errT r c i ts = 0
  · rw [if_pos h, if_pos h]
    by_cases h2 : ls.length = ts.length
    · rw [if_pos h2, if_pos h2, if_pos rfl]
    · rw [if_neg h2, if_neg h2, if_neg (by omega)]
  · rw [if_neg h, if_neg h, if_neg h]

noncomputable def fitsTail7 : Code := dropC 7 (bodyC Try.f8)
set_option maxRecDepth 100000 in
set_option maxHeartbeats 4000000 in
theorem fits_t7 {z0 z4 z5 z6 z12 z13 z14 z15 z16 z17 z18 z19 z20 z21 z22 z23 z24 z25 z26 z27 z28 z29 z30 z31 z32 z33 z34 z35 z36 z37 z38 z39 z40 z41 z42 z43 z44 z45 z46 z47 z48 z49 z50 z51 z52 z53 z54 z55 z56 z57 z58 z59 z60 z61 z62 z63 z64 z65 z66 z67 z68 z69 z70 z71 z72 z73 z74 z75 z76 z77 z78 z79 z80 z81 z82 z83 z84 z85 z86 z87 z88 z89 z90 z91 z92 z93 z94 z95 z96 z97 z98 z99 z100 z101 z102 z103 z104 z105 z106 z107 z108 z109 z110 z111 z112 z113 z114 z115 z116 z117 z118 z119 z120 z121 z122 z123 z124 z125 z126 : Value} (r : TR) (c i : Int) (lo : Nat) (A : Option Addr) (n cc : Nat) (ts : List R) (lo2 : Nat) (B2 : Option Addr) (m c2 : Nat) (ls : List Int) (w : World) (HX : Aside (Ranges w lo A ts)) (h0 : A = none → n = 0 ∧ cc = 0) (hn : Aside (ts.length = n)) (hl : n ≤ 1100) (HY : Aside (Ints w lo2 B2 ls)) (h02 : B2 = none → m = 0 ∧ c2 = 0) (hm : Aside (ls.length = m)) (hl2 : m ≤ 1100) (wC : World) (hBA : Below w.heap.size w wC) (fa : Int) (fC : Cs) (er f8 : Int) (Hf8 : Aside (f8 = if er = 0 then fa else 0)) (HFR : Aside (fitA r (seenZ ts ls) (oneC (c, i)) 0 = (fa, fC))) (Her : Aside (errF r c i ts ls = er)) (B7 : Option Addr) (c7 : Nat) (hA0 : w.heap.size < wC.heap.size) (q0 : wC.cell? ⟨w.heap.size, 0, none⟩ = some (.int .i64 r.frost)) (q1 : wC.cell? ⟨w.heap.size, 1, none⟩ = some (.int .i64 r.thaw)) (q2 : wC.cell? ⟨w.heap.size, 2, none⟩ = some (.int .i64 r.gain)) (q3 : wC.cell? ⟨w.heap.size, 3, none⟩ = some (.int .i64 r.full)) (q4 : wC.cell? ⟨w.heap.size, 4, none⟩ = some (.int .i64 r.ice)) (q5 : wC.cell? ⟨w.heap.size, 5, none⟩ = some (.int .i64 r.most)) (q6 : wC.cell? ⟨w.heap.size, 6, none⟩ = some (.int .i64 r.melt)) (q7 : wC.cell? ⟨w.heap.size, 7, none⟩ = some (.int .i64 r.rlow)) (q8 : wC.cell? ⟨w.heap.size, 8, none⟩ = some (.int .i64 r.rhigh)) (q9 : wC.cell? ⟨w.heap.size, 9, none⟩ = some (.int .i64 r.pull)) (q10 : wC.cell? ⟨w.heap.size, 10, none⟩ = some (.int .i64 c)) (q11 : wC.cell? ⟨w.heap.size, 11, none⟩ = some (.int .i64 i)) (b9 : Nat) (l9 : b9 < wC.heap.size) (o9 : Option (Int × Int)) (R9x R9y : Int) (Ho9 : Aside (rgO o9 = .agg #[.int .i64 R9x, .int .i64 R9y])) (c90 : wC.cell? ⟨b9, 0, none⟩ = some (.int .i64 R9x)) (c91 : wC.cell? ⟨b9, 1, none⟩ = some (.int .i64 R9y)) (Hn9 : Aside (er ≠ 0 → o9 = none)) (Hz9 : Aside (er = 0 → Rep1 o9 (anyC fC))) :
    Code.wp Try.prog fitsTail7 (bodyPost Try.prog Try.f8 fun e w' => e = .returned (.bool true) ∧ Below w.heap.size w w') ⟨List.toArray (z0 :: .slice A n cc :: .slice B2 m c2 :: .pointer (some ⟨w.heap.size, 0, none⟩) :: z4 :: z5 :: z6 :: .slice B7 m c7 :: .int .i64 f8 :: .pointer (some ⟨b9, 0, none⟩) :: .int .i64 er :: .int .i64 er :: z12 :: z13 :: z14 :: z15 :: z16 :: z17 :: z18 :: z19 :: z20 :: z21 :: z22 :: z23 :: z24 :: z25 :: z26 :: z27 :: z28 :: z29 :: z30 :: z31 :: z32 :: z33 :: z34 :: z35 :: z36 :: z37 :: z38 :: z39 :: z40 :: z41 :: z42 :: z43 :: z44 :: z45 :: z46 :: z47 :: z48 :: z49 :: z50 :: z51 :: z52 :: z53 :: z54 :: z55 :: z56 :: z57 :: z58 :: z59 :: z60 :: z61 :: z62 :: z63 :: z64 :: z65 :: z66 :: z67 :: z68 :: z69 :: z70 :: z71 :: z72 :: z73 :: z74 :: z75 :: z76 :: z77 :: z78 :: z79 :: z80 :: z81 :: z82 :: z83 :: z84 :: z85 :: z86 :: z87 :: z88 :: z89 :: z90 :: z91 :: z92 :: z93 :: z94 :: z95 :: z96 :: z97 :: z98 :: z99 :: z100 :: z101 :: z102 :: z103 :: z104 :: z105 :: z106 :: z107 :: z108 :: z109 :: z110 :: z111 :: z112 :: z113 :: z114 :: z115 :: z116 :: z117 :: z118 :: z119 :: z120 :: z121 :: z122 :: z123 :: z124 :: z125 :: z126 :: []), []⟩ wC := by
  have hkn := fun (W : World) => known_any W
  conv => arg 2; simp only [fitsTail7, bodyC, Try.f8, Option.getD_some, dropC, mkC]
  by_cases he : er = 0
  · subst he
    have hsz := hBA.size
    have hF := fun (W : World) (hb : Below w.heap.size w W) (hr : TROk r) (hst : stIn r (c, i)) (hnm : ls.length = n) (h1 : n ≤ 1000) (hok : Aside (ts.all okT = true)) => refFits_any r hr c i hst lo A n cc ts lo2 B2 c2 ls W (HX.out.below hb (Nat.le_refl _)) hn (HY.out.below hb (Nat.le_refl _)) hnm h1 hok
    obtain ⟨hT0, hmn, _⟩ : errT r c i ts = 0 ∧ ls.length = ts.length ∧ ls.all okS = true := by
      have := Her.out
      unfold errF at this
      split at this
      · rename_i h
        split at this
        · rename_i h3
          split at this
          · rename_i h4; exact ⟨h, h3, h4⟩
          · cases this
        · cases this
      · rename_i h; exact absurd this h
    obtain ⟨hr, hst, hlen, hok⟩ := errT_ok hT0
    have hF2 := fun W hb => hF W hb hr hst (by rw [hmn]; exact hn.out) (by have := hn.out; omega) hok
    rw [HFR.out, show rV r = .agg #[.int .i64 r.frost, .int .i64 r.thaw, .int .i64 r.gain, .int .i64 r.full, .int .i64 r.ice, .int .i64 r.most, .int .i64 r.melt, .int .i64 r.rlow, .int .i64 r.rhigh, .int .i64 r.pull] from rfl] at hF2
    obtain rfl : m = n := by have := hn.out; have := hm.out; omega
    have HO := Lib.hid (Hz9.out rfl)
    obtain rfl : f8 = fa := by rw [Hf8.out, if_pos rfl]
    clear hF hT0 hmn hr hst hlen hok Her HFR Hn9 Hz9 Hf8
    go_wp2_with fail
    refine Calls.mono (hF2 _ hBA) ?_
    rintro e wD ⟨o2, rfl, hR2, hbD⟩
    have hzD := hbD.size
    obtain rfl : o2 = o9 := hR2.uniq HO.out
    rw [Ho9.out]
    replace c90 := (hbD.cell (p := ⟨b9, 0, none⟩) l9).trans c90
    replace c91 := (hbD.cell (p := ⟨b9, 1, none⟩) l9).trans c91
    have l9' : b9 < wD.heap.size := by omega
    have hBD : Below w.heap.size w wD := bt hBA (Nat.le_refl _) hbD
    go_wp2_with fail
    refine (hkn _).mono ?_
    rintro e wK ⟨rfl, hbK⟩
    go_wp2
    go_ret
    exact ⟨rfl, bt (hBD.alloc hBD.size _) (Nat.le_refl _) hbK⟩
  · have he' : (er == 0) = false := by simpa using he
    have hsz := hBA.size
    have h9 := Hn9.out he
    have hrx := Ho9.out
    rw [h9] at hrx
    obtain ⟨rfl, rfl⟩ : R9x = 0 ∧ R9y = 0 := by
      simp only [rgO, Value.agg.injEq, Array.mk.injEq, List.cons.injEq, Value.int.injEq, and_true, true_and] at hrx
      exact ⟨hrx.1.symm, hrx.2.symm⟩
    obtain rfl : f8 = 0 := by rw [Hf8.out, if_neg he]
    clear hrx h9 Hn9 Hz9 Ho9 HFR Her Hf8
    go_wp2_with fail
    refine (hkn _).mono ?_
    rintro e wK ⟨rfl, hbK⟩
    go_wp2
    go_ret
    exact ⟨rfl, bt hBA (Nat.le_refl _) hbK⟩
noncomputable def fitsTail6 : Code := dropC 6 (bodyC Try.f8)
set_option maxRecDepth 100000 in
set_option maxHeartbeats 4000000 in
theorem fits_t6 {z0 z4 z5 z6 z12 z13 z14 z15 z16 z17 z18 z19 z20 z21 z22 z23 z24 z25 z26 z27 z28 z29 z30 z31 z32 z33 z34 z35 z36 z37 z38 z39 z40 z41 z42 z43 z44 z45 z46 z47 z48 z49 z50 z51 z52 z53 z54 z55 z56 z57 z58 z59 z60 z61 z62 z63 z64 z65 z66 z67 z68 z69 z70 z71 z72 z73 z74 z75 z76 z77 z78 z79 z80 z81 z82 z83 z84 z85 z86 z87 z88 z89 z90 z91 z92 z93 z94 z95 z96 z97 z98 z99 z100 z101 z102 z103 z104 z105 z106 z107 z108 z109 z110 z111 z112 z113 z114 z115 z116 z117 z118 z119 z120 z121 z122 z123 z124 z125 z126 : Value} (r : TR) (c i : Int) (lo : Nat) (A : Option Addr) (n cc : Nat) (ts : List R) (lo2 : Nat) (B2 : Option Addr) (m c2 : Nat) (ls : List Int) (w : World) (HX : Aside (Ranges w lo A ts)) (h0 : A = none → n = 0 ∧ cc = 0) (hn : Aside (ts.length = n)) (hl : n ≤ 1100) (HY : Aside (Ints w lo2 B2 ls)) (h02 : B2 = none → m = 0 ∧ c2 = 0) (hm : Aside (ls.length = m)) (hl2 : m ≤ 1100) (wB : World) (hBA : Below w.heap.size w wB) (fa : Int) (fC : Cs) (er f8 : Int) (Hf8 : Aside (f8 = if er = 0 then fa else 0)) (HFR : Aside (fitA r (seenZ ts ls) (oneC (c, i)) 0 = (fa, fC))) (Her : Aside (errF r c i ts ls = er)) (w0 : Int) (Hw0 : Aside (w0 = if errT r c i ts = 0 then (if m = n then 0 else 4) else errT r c i ts)) (B7 : Option Addr) (c7 : Nat) (HY7 : Aside (Ints wB 0 B7 ls)) (hA0 : w.heap.size < wB.heap.size) (q0 : wB.cell? ⟨w.heap.size, 0, none⟩ = some (.int .i64 r.frost)) (q1 : wB.cell? ⟨w.heap.size, 1, none⟩ = some (.int .i64 r.thaw)) (q2 : wB.cell? ⟨w.heap.size, 2, none⟩ = some (.int .i64 r.gain)) (q3 : wB.cell? ⟨w.heap.size, 3, none⟩ = some (.int .i64 r.full)) (q4 : wB.cell? ⟨w.heap.size, 4, none⟩ = some (.int .i64 r.ice)) (q5 : wB.cell? ⟨w.heap.size, 5, none⟩ = some (.int .i64 r.most)) (q6 : wB.cell? ⟨w.heap.size, 6, none⟩ = some (.int .i64 r.melt)) (q7 : wB.cell? ⟨w.heap.size, 7, none⟩ = some (.int .i64 r.rlow)) (q8 : wB.cell? ⟨w.heap.size, 8, none⟩ = some (.int .i64 r.rhigh)) (q9 : wB.cell? ⟨w.heap.size, 9, none⟩ = some (.int .i64 r.pull)) (q10 : wB.cell? ⟨w.heap.size, 10, none⟩ = some (.int .i64 c)) (q11 : wB.cell? ⟨w.heap.size, 11, none⟩ = some (.int .i64 i)) (b9 : Nat) (l9 : b9 < wB.heap.size) (o9 : Option (Int × Int)) (R9x R9y : Int) (Ho9 : Aside (rgO o9 = .agg #[.int .i64 R9x, .int .i64 R9y])) (c90 : wB.cell? ⟨b9, 0, none⟩ = some (.int .i64 R9x)) (c91 : wB.cell? ⟨b9, 1, none⟩ = some (.int .i64 R9y)) (Hn9 : Aside (er ≠ 0 → o9 = none)) (Hz9 : Aside (er = 0 → Rep1 o9 (anyC fC))) :
    Code.wp Try.prog fitsTail6 (bodyPost Try.prog Try.f8 fun e w' => e = .returned (.bool true) ∧ Below w.heap.size w w') ⟨List.toArray (z0 :: .slice A n cc :: .slice B2 m c2 :: .pointer (some ⟨w.heap.size, 0, none⟩) :: z4 :: z5 :: z6 :: .slice B7 m c7 :: .int .i64 f8 :: .pointer (some ⟨b9, 0, none⟩) :: .int .i64 er :: .int .i64 w0 :: z12 :: z13 :: z14 :: z15 :: z16 :: z17 :: z18 :: z19 :: z20 :: z21 :: z22 :: z23 :: z24 :: z25 :: z26 :: z27 :: z28 :: z29 :: z30 :: z31 :: z32 :: z33 :: z34 :: z35 :: z36 :: z37 :: z38 :: z39 :: z40 :: z41 :: z42 :: z43 :: z44 :: z45 :: z46 :: z47 :: z48 :: z49 :: z50 :: z51 :: z52 :: z53 :: z54 :: z55 :: z56 :: z57 :: z58 :: z59 :: z60 :: z61 :: z62 :: z63 :: z64 :: z65 :: z66 :: z67 :: z68 :: z69 :: z70 :: z71 :: z72 :: z73 :: z74 :: z75 :: z76 :: z77 :: z78 :: z79 :: z80 :: z81 :: z82 :: z83 :: z84 :: z85 :: z86 :: z87 :: z88 :: z89 :: z90 :: z91 :: z92 :: z93 :: z94 :: z95 :: z96 :: z97 :: z98 :: z99 :: z100 :: z101 :: z102 :: z103 :: z104 :: z105 :: z106 :: z107 :: z108 :: z109 :: z110 :: z111 :: z112 :: z113 :: z114 :: z115 :: z116 :: z117 :: z118 :: z119 :: z120 :: z121 :: z122 :: z123 :: z124 :: z125 :: z126 :: []), []⟩ wB := by
  have hkn := fun (W : World) => known_any W
  have hR : fitsTail7 = dropC 1 fitsTail6 := (dropC_add 1 6 _).symm
  refine wp_tail 1 hR ?_
  conv => arg 2; simp only [fitsTail6, bodyC, Try.f8, Option.getD_some, dropC, mkC]
  have hlm : ls.length = m := hm.out
  go_wp2_with fail
  go_loopg [11, 12] (m) (fun gg wn ii wr => ∃ k : Nat, k ≤ m ∧ m - k ≤ gg ∧ ii = .int .i64 k ∧ wn = .int .i64 (wantK w0 ls k) ∧ Aside (Below wB.heap.size wB wr))
  case atStart => exact ⟨0, Nat.zero_le _, Nat.le_refl _, rfl, by rw [wantK_zero], Below.refl _ _⟩
  case round =>
    obtain ⟨k, hk, hg, rfl, rfl, hB⟩ := hrel
    have hbs := hB.out.size
    have hBw : Below w.heap.size w wr := bt hBA (Nat.le_refl _) hB.out
    by_cases hlt : k < m
    · obtain ⟨bd, od, hBB, _, hld, hds⟩ := HY.out (by omega)
      subst hBB
      obtain ⟨b7, o7, hB7, _, hl7, hds7⟩ := HY7.out (by omega)
      subst hB7
      have f0 := (hBw.cell (p := ⟨bd, od + k, none⟩) hld).trans (hds k (by omega))
      have f7 := (hB.out.cell (p := ⟨b7, o7 + k, none⟩) hl7).trans (hds7 k (by omega))
      have hkeep := wantK_keep (w0 := w0) (ls := ls) (k := k) (by omega)
      have hnext := wantK_next (w0 := w0) (ls := ls) (k := k) (by omega)
      generalize ls[k]?.getD 0 = sn at f0 f7 hnext
      have hltz : (k : Int) < (m : Int) := by omega
      have hi0 : (0 : Int) ≤ (k : Int) := Int.natCast_nonneg _
      have hbdw : bd < wr.heap.size := by have := hBw.size; omega
      have hb7w : b7 < wr.heap.size := by omega
      generalize wantK w0 ls k = v at hkeep hnext ⊢
      clear hds hds7
      go_wp2_with fail
      go_quiet (fail)
      generalize hq : World.drewN wr _ = wQ
      have hbq := drawnT hq
      clear hq
      have f0' := (hbq.cell (p := ⟨bd, od + k, none⟩) hbdw).trans f0
      have f7' := (hbq.cell (p := ⟨b7, o7 + k, none⟩) hb7w).trans f7
      have hBQ := bt hB.out (Nat.le_refl _) hbq
      by_cases hv : v = 0
      · have hnx := hnext hv
        subst hv
        by_cases s0 : sn < 0
        · have hs : okS sn = false := by simp [okS]; omega
          rw [hs] at hnx
          have Hnx := Lib.hid hnx
          clear hnx hnext hkeep hs
          go_wp2
          go_roundg (m - (k + 1))
          case measure => omega
          case rel => exact ⟨k + 1, by omega, by omega, by go_num, by rw [Hnx.out]; rfl, hBQ⟩
        · by_cases s2 : 2 < sn
          · have hs : okS sn = false := by simp [okS]; omega
            rw [hs] at hnx
            have Hnx := Lib.hid hnx
            clear hnx hnext hkeep hs
            go_wp2
            go_roundg (m - (k + 1))
            case measure => omega
            case rel => exact ⟨k + 1, by omega, by omega, by go_num, by rw [Hnx.out]; rfl, hBQ⟩
          · have hs : okS sn = true := by simp [okS]; omega
            rw [hs] at hnx
            have Hnx := Lib.hid hnx
            clear hnx hnext hkeep hs
            go_wp2
            go_roundg (m - (k + 1))
            case measure => omega
            case rel => exact ⟨k + 1, by omega, by omega, by go_num, by rw [Hnx.out]; rfl, hBQ⟩
      · have hvb : (v == 0) = false := by simpa using hv
        have Hnx := Lib.hid (hkeep hv)
        clear hnext hkeep
        go_wp2
        go_roundg (m - (k + 1))
        case measure => omega
        case rel => exact ⟨k + 1, by omega, by omega, by go_num, by rw [Hnx.out], hBQ⟩
    · have hltz : ¬ (k : Int) < (m : Int) := by omega
      obtain rfl : k = m := by omega
      have hfull := wantK_full r c i ts ls
      rw [hlm, hn.out, ← Hw0.out, Her.out] at hfull
      rw [hfull]
      have hlb9 : b9 < wr.heap.size := by omega
      replace q0 := (hB.out.cell (p := ⟨w.heap.size, 0, none⟩) hA0).trans q0
      replace q1 := (hB.out.cell (p := ⟨w.heap.size, 1, none⟩) hA0).trans q1
      replace q2 := (hB.out.cell (p := ⟨w.heap.size, 2, none⟩) hA0).trans q2
      replace q3 := (hB.out.cell (p := ⟨w.heap.size, 3, none⟩) hA0).trans q3
      replace q4 := (hB.out.cell (p := ⟨w.heap.size, 4, none⟩) hA0).trans q4
      replace q5 := (hB.out.cell (p := ⟨w.heap.size, 5, none⟩) hA0).trans q5
      replace q6 := (hB.out.cell (p := ⟨w.heap.size, 6, none⟩) hA0).trans q6
      replace q7 := (hB.out.cell (p := ⟨w.heap.size, 7, none⟩) hA0).trans q7
      replace q8 := (hB.out.cell (p := ⟨w.heap.size, 8, none⟩) hA0).trans q8
      replace q9 := (hB.out.cell (p := ⟨w.heap.size, 9, none⟩) hA0).trans q9
      replace q10 := (hB.out.cell (p := ⟨w.heap.size, 10, none⟩) hA0).trans q10
      replace q11 := (hB.out.cell (p := ⟨w.heap.size, 11, none⟩) hA0).trans q11
      replace c90 := (hB.out.cell (p := ⟨b9, 0, none⟩) l9).trans c90
      replace c91 := (hB.out.cell (p := ⟨b9, 1, none⟩) l9).trans c91
      go_wp2_with fail
      exact fits_t7 r c i lo A _ cc ts lo2 B2 _ c2 ls w HX h0 hn hl HY h02 hm hl2 wr hBw fa fC er f8 Hf8 HFR Her B7 c7 (by omega) q0 q1 q2 q3 q4 q5 q6 q7 q8 q9 q10 q11 b9 hlb9 o9 R9x R9y Ho9 c90 c91 Hn9 Hz9
noncomputable def fitsTail4 : Code := dropC 4 (bodyC Try.f8)
set_option maxRecDepth 100000 in
set_option maxHeartbeats 4000000 in
theorem fits_t4 {z0 z4 z5 z6 z11 z12 z13 z14 z15 z16 z17 z18 z19 z20 z21 z22 z23 z24 z25 z26 z27 z28 z29 z30 z31 z32 z33 z34 z35 z36 z37 z38 z39 z40 z41 z42 z43 z44 z45 z46 z47 z48 z49 z50 z51 z52 z53 z54 z55 z56 z57 z58 z59 z60 z61 z62 z63 z64 z65 z66 z67 z68 z69 z70 z71 z72 z73 z74 z75 z76 z77 z78 z79 z80 z81 z82 z83 z84 z85 z86 z87 z88 z89 z90 z91 z92 z93 z94 z95 z96 z97 z98 z99 z100 z101 z102 z103 z104 z105 z106 z107 z108 z109 z110 z111 z112 z113 z114 z115 z116 z117 z118 z119 z120 z121 z122 z123 z124 z125 z126 : Value} (r : TR) (c i : Int) (lo : Nat) (A : Option Addr) (n cc : Nat) (ts : List R) (lo2 : Nat) (B2 : Option Addr) (m c2 : Nat) (ls : List Int) (w : World) (HX : Aside (Ranges w lo A ts)) (h0 : A = none → n = 0 ∧ cc = 0) (hn : Aside (ts.length = n)) (hl : n ≤ 1100) (HY : Aside (Ints w lo2 B2 ls)) (h02 : B2 = none → m = 0 ∧ c2 = 0) (hm : Aside (ls.length = m)) (hl2 : m ≤ 1100) (wB : World) (hBA : Below w.heap.size w wB) (fa : Int) (fC : Cs) (er f8 : Int) (Hf8 : Aside (f8 = if er = 0 then fa else 0)) (HFR : Aside (fitA r (seenZ ts ls) (oneC (c, i)) 0 = (fa, fC))) (Her : Aside (errF r c i ts ls = er)) (B7 : Option Addr) (c7 : Nat) (HY7 : Aside (Ints wB 0 B7 ls)) (hA0 : w.heap.size < wB.heap.size) (q0 : wB.cell? ⟨w.heap.size, 0, none⟩ = some (.int .i64 r.frost)) (q1 : wB.cell? ⟨w.heap.size, 1, none⟩ = some (.int .i64 r.thaw)) (q2 : wB.cell? ⟨w.heap.size, 2, none⟩ = some (.int .i64 r.gain)) (q3 : wB.cell? ⟨w.heap.size, 3, none⟩ = some (.int .i64 r.full)) (q4 : wB.cell? ⟨w.heap.size, 4, none⟩ = some (.int .i64 r.ice)) (q5 : wB.cell? ⟨w.heap.size, 5, none⟩ = some (.int .i64 r.most)) (q6 : wB.cell? ⟨w.heap.size, 6, none⟩ = some (.int .i64 r.melt)) (q7 : wB.cell? ⟨w.heap.size, 7, none⟩ = some (.int .i64 r.rlow)) (q8 : wB.cell? ⟨w.heap.size, 8, none⟩ = some (.int .i64 r.rhigh)) (q9 : wB.cell? ⟨w.heap.size, 9, none⟩ = some (.int .i64 r.pull)) (q10 : wB.cell? ⟨w.heap.size, 10, none⟩ = some (.int .i64 c)) (q11 : wB.cell? ⟨w.heap.size, 11, none⟩ = some (.int .i64 i)) (b9 : Nat) (l9 : b9 < wB.heap.size) (o9 : Option (Int × Int)) (R9x R9y : Int) (Ho9 : Aside (rgO o9 = .agg #[.int .i64 R9x, .int .i64 R9y])) (c90 : wB.cell? ⟨b9, 0, none⟩ = some (.int .i64 R9x)) (c91 : wB.cell? ⟨b9, 1, none⟩ = some (.int .i64 R9y)) (Hn9 : Aside (er ≠ 0 → o9 = none)) (Hz9 : Aside (er = 0 → Rep1 o9 (anyC fC))) :
    Code.wp Try.prog fitsTail4 (bodyPost Try.prog Try.f8 fun e w' => e = .returned (.bool true) ∧ Below w.heap.size w w') ⟨List.toArray (z0 :: .slice A n cc :: .slice B2 m c2 :: .pointer (some ⟨w.heap.size, 0, none⟩) :: z4 :: z5 :: z6 :: .slice B7 m c7 :: .int .i64 f8 :: .pointer (some ⟨b9, 0, none⟩) :: .int .i64 er :: z11 :: z12 :: z13 :: z14 :: z15 :: z16 :: z17 :: z18 :: z19 :: z20 :: z21 :: z22 :: z23 :: z24 :: z25 :: z26 :: z27 :: z28 :: z29 :: z30 :: z31 :: z32 :: z33 :: z34 :: z35 :: z36 :: z37 :: z38 :: z39 :: z40 :: z41 :: z42 :: z43 :: z44 :: z45 :: z46 :: z47 :: z48 :: z49 :: z50 :: z51 :: z52 :: z53 :: z54 :: z55 :: z56 :: z57 :: z58 :: z59 :: z60 :: z61 :: z62 :: z63 :: z64 :: z65 :: z66 :: z67 :: z68 :: z69 :: z70 :: z71 :: z72 :: z73 :: z74 :: z75 :: z76 :: z77 :: z78 :: z79 :: z80 :: z81 :: z82 :: z83 :: z84 :: z85 :: z86 :: z87 :: z88 :: z89 :: z90 :: z91 :: z92 :: z93 :: z94 :: z95 :: z96 :: z97 :: z98 :: z99 :: z100 :: z101 :: z102 :: z103 :: z104 :: z105 :: z106 :: z107 :: z108 :: z109 :: z110 :: z111 :: z112 :: z113 :: z114 :: z115 :: z116 :: z117 :: z118 :: z119 :: z120 :: z121 :: z122 :: z123 :: z124 :: z125 :: z126 :: []), []⟩ wB := by
  have hkn := fun (W : World) => known_any W
  have hR : fitsTail6 = dropC 2 fitsTail4 := (dropC_add 2 4 _).symm
  refine wp_tail 2 hR ?_
  conv => arg 2; simp only [fitsTail4, bodyC, Try.f8, Option.getD_some, dropC, mkC]
  have hrc := fun W (hb : Below w.heap.size w W) => refCheck_any r c i lo A n cc ts W (HX.out.below hb (Nat.le_refl _)) hn (by unfold maxLen; omega)
  rw [show rV r = .agg #[.int .i64 r.frost, .int .i64 r.thaw, .int .i64 r.gain, .int .i64 r.full, .int .i64 r.ice, .int .i64 r.most, .int .i64 r.melt, .int .i64 r.rlow, .int .i64 r.rhigh, .int .i64 r.pull] from rfl] at hrc
  obtain ⟨w0, hw0⟩ : ∃ w0, w0 = if errT r c i ts = 0 then (if m = n then 0 else 4) else errT r c i ts := ⟨_, rfl⟩
  have HW0 := Lib.hid (show Aside (w0 = if errT r c i ts = 0 then (if m = n then 0 else 4) else errT r c i ts) from hw0)
  have hsz := hBA.size
  by_cases he : errT r c i ts = 0
  · rw [he] at hrc
    have HE := Lib.hid he
    by_cases hmn : m = n
    · have hmb : ((m : Int) != (n : Int)) = false := by simp [hmn]
      obtain rfl : w0 = 0 := by rw [hw0, if_pos he, if_pos hmn]
      subst hmn
      clear hw0
      go_wp2_with fail
      refine Calls.mono (hrc _ hBA) ?_
      rintro e wD ⟨rfl, hbD⟩
      have hzD := hbD.size
      replace q0 := (hbD.cell (p := ⟨w.heap.size, 0, none⟩) hA0).trans q0
      replace q1 := (hbD.cell (p := ⟨w.heap.size, 1, none⟩) hA0).trans q1
      replace q2 := (hbD.cell (p := ⟨w.heap.size, 2, none⟩) hA0).trans q2
      replace q3 := (hbD.cell (p := ⟨w.heap.size, 3, none⟩) hA0).trans q3
      replace q4 := (hbD.cell (p := ⟨w.heap.size, 4, none⟩) hA0).trans q4
      replace q5 := (hbD.cell (p := ⟨w.heap.size, 5, none⟩) hA0).trans q5
      replace q6 := (hbD.cell (p := ⟨w.heap.size, 6, none⟩) hA0).trans q6
      replace q7 := (hbD.cell (p := ⟨w.heap.size, 7, none⟩) hA0).trans q7
      replace q8 := (hbD.cell (p := ⟨w.heap.size, 8, none⟩) hA0).trans q8
      replace q9 := (hbD.cell (p := ⟨w.heap.size, 9, none⟩) hA0).trans q9
      replace q10 := (hbD.cell (p := ⟨w.heap.size, 10, none⟩) hA0).trans q10
      replace q11 := (hbD.cell (p := ⟨w.heap.size, 11, none⟩) hA0).trans q11
      replace c90 := (hbD.cell (p := ⟨b9, 0, none⟩) l9).trans c90
      replace c91 := (hbD.cell (p := ⟨b9, 1, none⟩) l9).trans c91
      have l9' : b9 < wD.heap.size := by omega
      have hBD : Below w.heap.size w wD := bt hBA (Nat.le_refl _) hbD
      have hA0' : w.heap.size < wD.heap.size := by omega
      have HY7' : Aside (Ints wD 0 B7 ls) := HY7.out.below hbD (Nat.le_refl _)
      go_wp2_with fail
      exact fits_t6 r c i lo A _ cc ts lo2 B2 _ c2 ls w HX h0 hn hl HY h02 hm hl2 wD hBD fa fC er f8 Hf8 HFR Her _ (by first | exact HW0.out | (unfold Aside; rw [if_pos HE.out, if_pos rfl])) B7 c7 HY7' hA0' q0 q1 q2 q3 q4 q5 q6 q7 q8 q9 q10 q11 b9 l9' o9 R9x R9y Ho9 c90 c91 Hn9 Hz9
    · have hmb : ¬ (m : Int) = (n : Int) := by omega
      obtain rfl : w0 = 4 := by rw [hw0, if_pos he, if_neg hmn]
      clear hw0
      go_wp2_with fail
      refine Calls.mono (hrc _ hBA) ?_
      rintro e wD ⟨rfl, hbD⟩
      have hzD := hbD.size
      replace q0 := (hbD.cell (p := ⟨w.heap.size, 0, none⟩) hA0).trans q0
      replace q1 := (hbD.cell (p := ⟨w.heap.size, 1, none⟩) hA0).trans q1
      replace q2 := (hbD.cell (p := ⟨w.heap.size, 2, none⟩) hA0).trans q2
      replace q3 := (hbD.cell (p := ⟨w.heap.size, 3, none⟩) hA0).trans q3
      replace q4 := (hbD.cell (p := ⟨w.heap.size, 4, none⟩) hA0).trans q4
      replace q5 := (hbD.cell (p := ⟨w.heap.size, 5, none⟩) hA0).trans q5
      replace q6 := (hbD.cell (p := ⟨w.heap.size, 6, none⟩) hA0).trans q6
      replace q7 := (hbD.cell (p := ⟨w.heap.size, 7, none⟩) hA0).trans q7
      replace q8 := (hbD.cell (p := ⟨w.heap.size, 8, none⟩) hA0).trans q8
      replace q9 := (hbD.cell (p := ⟨w.heap.size, 9, none⟩) hA0).trans q9
      replace q10 := (hbD.cell (p := ⟨w.heap.size, 10, none⟩) hA0).trans q10
      replace q11 := (hbD.cell (p := ⟨w.heap.size, 11, none⟩) hA0).trans q11
      replace c90 := (hbD.cell (p := ⟨b9, 0, none⟩) l9).trans c90
      replace c91 := (hbD.cell (p := ⟨b9, 1, none⟩) l9).trans c91
      have l9' : b9 < wD.heap.size := by omega
      have hBD : Below w.heap.size w wD := bt hBA (Nat.le_refl _) hbD
      have hA0' : w.heap.size < wD.heap.size := by omega
      have HY7' : Aside (Ints wD 0 B7 ls) := HY7.out.below hbD (Nat.le_refl _)
      go_wp2_with fail
      exact fits_t6 r c i lo A _ cc ts lo2 B2 _ c2 ls w HX h0 hn hl HY h02 hm hl2 wD hBD fa fC er f8 Hf8 HFR Her _ (by first | exact HW0.out | (unfold Aside; rw [if_pos HE.out, if_pos rfl])) B7 c7 HY7' hA0' q0 q1 q2 q3 q4 q5 q6 q7 q8 q9 q10 q11 b9 l9' o9 R9x R9y Ho9 c90 c91 Hn9 Hz9
  · rw [if_neg he] at hw0
    rw [← hw0] at hrc he
    have heb : (w0 == 0) = false := by simpa using he
    clear hw0
    go_wp2_with fail
    refine Calls.mono (hrc _ hBA) ?_
    rintro e wD ⟨rfl, hbD⟩
    have hzD := hbD.size
    replace q0 := (hbD.cell (p := ⟨w.heap.size, 0, none⟩) hA0).trans q0
    replace q1 := (hbD.cell (p := ⟨w.heap.size, 1, none⟩) hA0).trans q1
    replace q2 := (hbD.cell (p := ⟨w.heap.size, 2, none⟩) hA0).trans q2
    replace q3 := (hbD.cell (p := ⟨w.heap.size, 3, none⟩) hA0).trans q3
    replace q4 := (hbD.cell (p := ⟨w.heap.size, 4, none⟩) hA0).trans q4
    replace q5 := (hbD.cell (p := ⟨w.heap.size, 5, none⟩) hA0).trans q5
    replace q6 := (hbD.cell (p := ⟨w.heap.size, 6, none⟩) hA0).trans q6
    replace q7 := (hbD.cell (p := ⟨w.heap.size, 7, none⟩) hA0).trans q7
    replace q8 := (hbD.cell (p := ⟨w.heap.size, 8, none⟩) hA0).trans q8
    replace q9 := (hbD.cell (p := ⟨w.heap.size, 9, none⟩) hA0).trans q9
    replace q10 := (hbD.cell (p := ⟨w.heap.size, 10, none⟩) hA0).trans q10
    replace q11 := (hbD.cell (p := ⟨w.heap.size, 11, none⟩) hA0).trans q11
    replace c90 := (hbD.cell (p := ⟨b9, 0, none⟩) l9).trans c90
    replace c91 := (hbD.cell (p := ⟨b9, 1, none⟩) l9).trans c91
    have l9' : b9 < wD.heap.size := by omega
    have hBD : Below w.heap.size w wD := bt hBA (Nat.le_refl _) hbD
    have hA0' : w.heap.size < wD.heap.size := by omega
    have HY7' : Aside (Ints wD 0 B7 ls) := HY7.out.below hbD (Nat.le_refl _)
    go_wp2_with fail
    exact fits_t6 r c i lo A _ cc ts lo2 B2 _ c2 ls w HX h0 hn hl HY h02 hm hl2 wD hBD fa fC er f8 Hf8 HFR Her _ (by first | exact HW0.out | (unfold Aside; rw [if_pos HE.out, if_pos rfl])) B7 c7 HY7' hA0' q0 q1 q2 q3 q4 q5 q6 q7 q8 q9 q10 q11 b9 l9' o9 R9x R9y Ho9 c90 c91 Hn9 Hz9
noncomputable def fitsTail3 : Code := dropC 3 (bodyC Try.f8)
set_option maxRecDepth 100000 in
set_option maxHeartbeats 4000000 in
theorem fits_t3 {z0 z4 z5 z6 z8 z9 z10 z11 z12 z13 z14 z15 z16 z17 z18 z19 z20 z21 z22 z23 z24 z25 z26 z27 z28 z29 z30 z31 z32 z33 z34 z35 z36 z37 z38 z39 z40 z41 z42 z43 z44 z45 z46 z47 z48 z49 z50 z51 z52 z53 z54 z55 z56 z57 z58 z59 z60 z61 z62 z63 z64 z65 z66 z67 z68 z69 z70 z71 z72 z73 z74 z75 z76 z77 z78 z79 z80 z81 z82 z83 z84 z85 z86 z87 z88 z89 z90 z91 z92 z93 z94 z95 z96 z97 z98 z99 z100 z101 z102 z103 z104 z105 z106 z107 z108 z109 z110 z111 z112 z113 z114 z115 z116 z117 z118 z119 z120 z121 z122 z123 z124 z125 z126 : Value} (r : TR) (c i : Int) (lo : Nat) (A : Option Addr) (n cc : Nat) (ts : List R) (lo2 : Nat) (B2 : Option Addr) (m c2 : Nat) (ls : List Int) (w : World) (HX : Aside (Ranges w lo A ts)) (h0 : A = none → n = 0 ∧ cc = 0) (hn : Aside (ts.length = n)) (hl : n ≤ 1100) (HY : Aside (Ints w lo2 B2 ls)) (h02 : B2 = none → m = 0 ∧ c2 = 0) (hm : Aside (ls.length = m)) (hl2 : m ≤ 1100) (wA : World) (hBA : Below w.heap.size w wA) (fa : Int) (fC : Cs) (er f8 : Int) (Hf8 : Aside (f8 = if er = 0 then fa else 0)) (HFR : Aside (fitA r (seenZ ts ls) (oneC (c, i)) 0 = (fa, fC))) (Her : Aside (errF r c i ts ls = er)) (B7 : Option Addr) (c7 : Nat) (HY7 : Aside (Ints wA 0 B7 ls)) (hA0 : w.heap.size < wA.heap.size) (q0 : wA.cell? ⟨w.heap.size, 0, none⟩ = some (.int .i64 r.frost)) (q1 : wA.cell? ⟨w.heap.size, 1, none⟩ = some (.int .i64 r.thaw)) (q2 : wA.cell? ⟨w.heap.size, 2, none⟩ = some (.int .i64 r.gain)) (q3 : wA.cell? ⟨w.heap.size, 3, none⟩ = some (.int .i64 r.full)) (q4 : wA.cell? ⟨w.heap.size, 4, none⟩ = some (.int .i64 r.ice)) (q5 : wA.cell? ⟨w.heap.size, 5, none⟩ = some (.int .i64 r.most)) (q6 : wA.cell? ⟨w.heap.size, 6, none⟩ = some (.int .i64 r.melt)) (q7 : wA.cell? ⟨w.heap.size, 7, none⟩ = some (.int .i64 r.rlow)) (q8 : wA.cell? ⟨w.heap.size, 8, none⟩ = some (.int .i64 r.rhigh)) (q9 : wA.cell? ⟨w.heap.size, 9, none⟩ = some (.int .i64 r.pull)) (q10 : wA.cell? ⟨w.heap.size, 10, none⟩ = some (.int .i64 c)) (q11 : wA.cell? ⟨w.heap.size, 11, none⟩ = some (.int .i64 i)) :
    Code.wp Try.prog fitsTail3 (bodyPost Try.prog Try.f8 fun e w' => e = .returned (.bool true) ∧ Below w.heap.size w w') ⟨List.toArray (z0 :: .slice A n cc :: .slice B2 m c2 :: .pointer (some ⟨w.heap.size, 0, none⟩) :: z4 :: z5 :: z6 :: .slice B7 m c7 :: z8 :: z9 :: z10 :: z11 :: z12 :: z13 :: z14 :: z15 :: z16 :: z17 :: z18 :: z19 :: z20 :: z21 :: z22 :: z23 :: z24 :: z25 :: z26 :: z27 :: z28 :: z29 :: z30 :: z31 :: z32 :: z33 :: z34 :: z35 :: z36 :: z37 :: z38 :: z39 :: z40 :: z41 :: z42 :: z43 :: z44 :: z45 :: z46 :: z47 :: z48 :: z49 :: z50 :: z51 :: z52 :: z53 :: z54 :: z55 :: z56 :: z57 :: z58 :: z59 :: z60 :: z61 :: z62 :: z63 :: z64 :: z65 :: z66 :: z67 :: z68 :: z69 :: z70 :: z71 :: z72 :: z73 :: z74 :: z75 :: z76 :: z77 :: z78 :: z79 :: z80 :: z81 :: z82 :: z83 :: z84 :: z85 :: z86 :: z87 :: z88 :: z89 :: z90 :: z91 :: z92 :: z93 :: z94 :: z95 :: z96 :: z97 :: z98 :: z99 :: z100 :: z101 :: z102 :: z103 :: z104 :: z105 :: z106 :: z107 :: z108 :: z109 :: z110 :: z111 :: z112 :: z113 :: z114 :: z115 :: z116 :: z117 :: z118 :: z119 :: z120 :: z121 :: z122 :: z123 :: z124 :: z125 :: z126 :: []), []⟩ wA := by
  have hkn := fun (W : World) => known_any W
  have hR : fitsTail4 = dropC 1 fitsTail3 := (dropC_add 1 3 _).symm
  refine wp_tail 1 hR ?_
  conv => arg 2; simp only [fitsTail3, bodyC, Try.f8, Option.getD_some, dropC, mkC]
  have hsz := hBA.size
  have hcp := fun W (hb : Below w.heap.size w W) => copy_16 lo A n cc ts W (rngL_at.2 (HX.out.below hb (Nat.le_refl _))) hn.out h0 (by omega)
  have hft := fun A1 d1 B7 c7 W h1 h2 => fits_any r c i 0 A1 n d1 ts 0 B7 m c7 ls W h1 hn (by unfold maxLen; omega) h2 hm (by unfold maxLen; omega)
  rw [HFR.out, Her.out, show rV r = .agg #[.int .i64 r.frost, .int .i64 r.thaw, .int .i64 r.gain, .int .i64 r.full, .int .i64 r.ice, .int .i64 r.most, .int .i64 r.melt, .int .i64 r.rlow, .int .i64 r.rhigh, .int .i64 r.pull] from rfl] at hft
  unfold FitsPost at hft
  simp only at hft
  rw [← Hf8.out] at hft
  go_upto_region 4 with (fail)
  go_cut [8, 9, 10] (fun v8 v9 v10 wx => ∃ (b9 : Nat) (o9 : Option (Int × Int)) (x y : Int), v8 = .int .i64 f8 ∧ v9 = .pointer (some ⟨b9, 0, none⟩) ∧ v10 = .int .i64 er ∧ b9 < wx.heap.size ∧ wx.cell? ⟨b9, 0, none⟩ = some (.int .i64 x) ∧ wx.cell? ⟨b9, 1, none⟩ = some (.int .i64 y) ∧ Aside (rgO o9 = .agg #[.int .i64 x, .int .i64 y]) ∧ Aside (er ≠ 0 → o9 = none) ∧ Aside (er = 0 → Rep1 o9 (anyC fC)) ∧ Aside (Below wA.heap.size wA wx))
  case first =>
    have hAll : Aside (∀ W, Below wA.heap.size wA W → (Below wA.heap.size wA W ∧ W.cell? ⟨w.heap.size, 0, none⟩ = some (.int .i64 r.frost) ∧ W.cell? ⟨w.heap.size, 1, none⟩ = some (.int .i64 r.thaw) ∧ W.cell? ⟨w.heap.size, 2, none⟩ = some (.int .i64 r.gain) ∧ W.cell? ⟨w.heap.size, 3, none⟩ = some (.int .i64 r.full) ∧ W.cell? ⟨w.heap.size, 4, none⟩ = some (.int .i64 r.ice) ∧ W.cell? ⟨w.heap.size, 5, none⟩ = some (.int .i64 r.most) ∧ W.cell? ⟨w.heap.size, 6, none⟩ = some (.int .i64 r.melt) ∧ W.cell? ⟨w.heap.size, 7, none⟩ = some (.int .i64 r.rlow) ∧ W.cell? ⟨w.heap.size, 8, none⟩ = some (.int .i64 r.rhigh) ∧ W.cell? ⟨w.heap.size, 9, none⟩ = some (.int .i64 r.pull) ∧ W.cell? ⟨w.heap.size, 10, none⟩ = some (.int .i64 c) ∧ W.cell? ⟨w.heap.size, 11, none⟩ = some (.int .i64 i))) := fun W h => ⟨h, (h.cell (p := ⟨w.heap.size, 0, none⟩) hA0).trans q0, (h.cell (p := ⟨w.heap.size, 1, none⟩) hA0).trans q1, (h.cell (p := ⟨w.heap.size, 2, none⟩) hA0).trans q2, (h.cell (p := ⟨w.heap.size, 3, none⟩) hA0).trans q3, (h.cell (p := ⟨w.heap.size, 4, none⟩) hA0).trans q4, (h.cell (p := ⟨w.heap.size, 5, none⟩) hA0).trans q5, (h.cell (p := ⟨w.heap.size, 6, none⟩) hA0).trans q6, (h.cell (p := ⟨w.heap.size, 7, none⟩) hA0).trans q7, (h.cell (p := ⟨w.heap.size, 8, none⟩) hA0).trans q8, (h.cell (p := ⟨w.heap.size, 9, none⟩) hA0).trans q9, (h.cell (p := ⟨w.heap.size, 10, none⟩) hA0).trans q10, (h.cell (p := ⟨w.heap.size, 11, none⟩) hA0).trans q11⟩
    refine wp_region_held_drew (S := fun W => Below wA.heap.size wA W ∧ W.cell? ⟨w.heap.size, 0, none⟩ = some (.int .i64 r.frost) ∧ W.cell? ⟨w.heap.size, 1, none⟩ = some (.int .i64 r.thaw) ∧ W.cell? ⟨w.heap.size, 2, none⟩ = some (.int .i64 r.gain) ∧ W.cell? ⟨w.heap.size, 3, none⟩ = some (.int .i64 r.full) ∧ W.cell? ⟨w.heap.size, 4, none⟩ = some (.int .i64 r.ice) ∧ W.cell? ⟨w.heap.size, 5, none⟩ = some (.int .i64 r.most) ∧ W.cell? ⟨w.heap.size, 6, none⟩ = some (.int .i64 r.melt) ∧ W.cell? ⟨w.heap.size, 7, none⟩ = some (.int .i64 r.rlow) ∧ W.cell? ⟨w.heap.size, 8, none⟩ = some (.int .i64 r.rhigh) ∧ W.cell? ⟨w.heap.size, 9, none⟩ = some (.int .i64 r.pull) ∧ W.cell? ⟨w.heap.size, 10, none⟩ = some (.int .i64 c) ∧ W.cell? ⟨w.heap.size, 11, none⟩ = some (.int .i64 i)) (by kernel_rfl) (hAll.out _ ((Below.refl _ _).drew)) (fun hS0 => ?_)
    refine wpAnyH_take (i := 0) (v := ?_) rfl (by kernel_rfl) (by kernel_rfl) (by kernel_rfl) (fun _ _ _ h => h) (Or.inl ⟨by rfl, ?_⟩) hS0 ?_
    rotate_left
    · (intro W hSw; (try dsimp only at hSw); go_split_ands; go_simp; (try with_reducible rfl))
    (try go_simp)
    refine wpAnyH_take (i := 1) (v := ?_) rfl (by kernel_rfl) (by kernel_rfl) (by kernel_rfl) (fun _ _ _ h => h) (Or.inl ⟨by rfl, ?_⟩) hS0 ?_
    rotate_left
    · (intro W hSw; (try dsimp only at hSw); go_split_ands; go_simp; (try with_reducible rfl))
    (try go_simp)
    refine wpAnyH_take (i := 2) (v := ?_) rfl (by kernel_rfl) (by kernel_rfl) (by kernel_rfl) (fun _ _ _ h => h) (Or.inl ⟨by rfl, ?_⟩) hS0 ?_
    rotate_left
    · (intro W hSw; (try dsimp only at hSw); go_split_ands; go_simp; (try with_reducible rfl))
    (try go_simp)
    refine wpAnyH_take (i := 3) (v := ?_) rfl (by kernel_rfl) (by kernel_rfl) (by kernel_rfl) (fun _ _ _ h => h) (Or.inl ⟨by rfl, ?_⟩) hS0 ?_
    rotate_left
    · (intro W hSw; (try dsimp only at hSw); go_split_ands; go_simp; (try with_reducible rfl))
    (try go_simp)
    refine wpAnyH_take (i := 4) (v := ?_) rfl (by kernel_rfl) (by kernel_rfl) (by kernel_rfl) (fun _ _ _ h => h) (Or.inl ⟨by rfl, ?_⟩) hS0 ?_
    rotate_left
    · (intro W hSw; (try dsimp only at hSw); go_split_ands; go_simp; (try with_reducible rfl))
    (try go_simp)
    refine wpAnyH_take (i := 6) (v := ?_) rfl (by kernel_rfl) (by kernel_rfl) (by kernel_rfl) (fun _ _ _ h => h) (Or.inl ⟨by rfl, ?_⟩) hS0 ?_
    rotate_left
    · (intro W hSw; (try dsimp only at hSw); go_split_ands; go_simp; (try with_reducible rfl))
    (try go_simp)
    refine wpAnyH_ready (rs := [5, 12]) (by kernel_rfl) (by simp) ?_
    refine (AllReadyH.cons rfl (fun K hK => ?_) (AllReadyH.cons rfl (fun K hK => ?_) AllReadyH.nil))
    · skip
      go_simp
      go_wp2_with (go_at_call 16; refine Calls.mono (hcp _ (hBA.trans (Below.mono (show Below wA.heap.size wA _ from (by repeat (first | (with_reducible assumption) | exact Below.refl _ _ | (with_reducible refine Below.alloc ?_ (by first | omega | (simp <;> omega)) _) | (with_reducible refine Below.setCell ?_ (by first | omega | (simp <;> omega)) _) | (with_reducible refine Below.drew ?_)))) hBA.size))) ?_; rintro e w6 ⟨A1, d1, rfl, hc1, hc2, hE1, hb6⟩)
      have hTw6 : Below wA.heap.size wA w6 := bt (show Below wA.heap.size wA _ from (by repeat (first | (with_reducible assumption) | exact Below.refl _ _ | (with_reducible refine Below.alloc ?_ (by first | omega | (simp <;> omega)) _) | (with_reducible refine Below.setCell ?_ (by first | omega | (simp <;> omega)) _) | (with_reducible refine Below.drew ?_)))) (Nat.le_refl _) hb6
      have hsw6 := hTw6.size
      have hzw6 := hb6.size
      (try simp only [World.size_alloc, World.size_drew, World.size_setCell] at hzw6)
      have hE1' : Ranges w6 0 A1 ts := (rngL_at.1 hE1).mono (Nat.zero_le _)
      refine hK.out _ _ (hAll.out _ hTw6) (fun hS1 => ?_)
      clear hK K
      (try go_simp)
      refine wpAnyH_ready (rs := [7, 12]) (by kernel_rfl) (by simp) ?_
      refine (AllReadyH.cons rfl (fun K hK => ?_) (AllReadyH.cons rfl (fun K hK => ?_) AllReadyH.nil))
      · skip
        go_simp
        go_wp2_with (go_at_call 40; refine Calls.mono (hft A1 d1 B7 c7 _ (hE1'.below (show Below w6.heap.size w6 _ from (by repeat (first | (with_reducible assumption) | exact Below.refl _ _ | (with_reducible refine Below.alloc ?_ (by first | omega | (simp <;> omega)) _) | (with_reducible refine Below.setCell ?_ (by first | omega | (simp <;> omega)) _) | (with_reducible refine Below.drew ?_)))) (Nat.le_refl _)) (HY7.out.below (show Below wA.heap.size wA _ from (by repeat (first | (with_reducible assumption) | exact Below.refl _ _ | (with_reducible refine Below.alloc ?_ (by first | omega | (simp <;> omega)) _) | (with_reducible refine Below.setCell ?_ (by first | omega | (simp <;> omega)) _) | (with_reducible refine Below.drew ?_)))) (Nat.le_refl _))) ?_; rintro e w9 ⟨o9, rfl, hn9, hz9, hb9⟩)
        have hTw9 : Below wA.heap.size wA w9 := bt (show Below wA.heap.size wA _ from (by repeat (first | (with_reducible assumption) | exact Below.refl _ _ | (with_reducible refine Below.alloc ?_ (by first | omega | (simp <;> omega)) _) | (with_reducible refine Below.setCell ?_ (by first | omega | (simp <;> omega)) _) | (with_reducible refine Below.drew ?_)))) (Nat.le_refl _) hb9
        have hsw9 := hTw9.size
        have hzw9 := hb9.size
        (try simp only [World.size_alloc, World.size_drew, World.size_setCell] at hzw9)
        obtain ⟨R9x, R9y, hxy⟩ : ∃ x y, rgO o9 = .agg #[.int .i64 x, .int .i64 y] := ⟨_, _, rfl⟩
        rw [hxy]
        have Ho9 : Aside (rgO o9 = .agg #[.int .i64 R9x, .int .i64 R9y]) := hxy
        clear hxy
        refine hK.out _ _ (hAll.out _ hTw9) (fun hS2 => ?_)
        clear hK K
        (try go_simp)
        refine wpAnyH_take (i := 8) (v := ?_) rfl (by kernel_rfl) (by kernel_rfl) (by kernel_rfl) (fun _ _ _ h => h) (Or.inl ⟨by rfl, ?_⟩) hS2 ?_
        rotate_left
        · (intro W hSw; (try dsimp only at hSw); go_split_ands; go_simp; (try with_reducible rfl))
        (try go_simp)
        refine wpAnyH_take (i := 9) (v := ?_) rfl (by kernel_rfl) (by kernel_rfl) (by kernel_rfl) (fun _ _ _ h => h) (Or.inl ⟨by rfl, ?_⟩) hS2 ?_
        rotate_left
        · (intro W hSw; (try dsimp only at hSw); go_split_ands; go_simp; (try with_reducible rfl))
        (try go_simp)
        refine wpAnyH_take (i := 10) (v := ?_) rfl (by kernel_rfl) (by kernel_rfl) (by kernel_rfl) (fun _ _ _ h => h) (Or.inl ⟨by rfl, ?_⟩) hS2 ?_
        rotate_left
        · (intro W hSw; (try dsimp only at hSw); go_split_ands; go_simp; (try with_reducible rfl))
        (try go_simp)
        refine wpAnyH_take (i := 11) (v := ?_) rfl (by kernel_rfl) (by kernel_rfl) (by kernel_rfl) (fun _ _ _ h => h) (Or.inl ⟨by rfl, ?_⟩) hS2 ?_
        rotate_left
        · (intro W hSw; (try dsimp only at hSw); go_split_ands; go_simp; (try with_reducible rfl))
        (try go_simp)
        refine wpAnyH_ready (rs := [12]) (by kernel_rfl) (by simp) ?_
        refine (AllReadyH.cons rfl (fun K hK => ?_) AllReadyH.nil)
        go_simp
        refine hK.out _ _ (hAll.out _ (by repeat (first | (with_reducible assumption) | exact Below.refl _ _ | (with_reducible refine Below.alloc ?_ (by first | omega | (simp <;> omega)) _) | (with_reducible refine Below.setCell ?_ (by first | omega | (simp <;> omega)) _) | (with_reducible refine Below.drew ?_)))) (fun hS3 => ?_)
        clear hK K
        (try go_simp)
        refine wpAnyH_take (i := 13) (v := ?_) rfl (by kernel_rfl) (by kernel_rfl) (by kernel_rfl) (fun _ _ _ h => h) (Or.inl ⟨by rfl, ?_⟩) hS3 ?_
        rotate_left
        · (intro W hSw; (try dsimp only at hSw); go_split_ands; go_simp; (try with_reducible rfl))
        (try go_simp)
        refine wpAnyH_ready (rs := [14]) (by kernel_rfl) (by simp) ?_
        refine (AllReadyH.cons rfl (fun K hK => ?_) AllReadyH.nil)
        go_simp
        refine hK.out _ _ (hAll.out _ (by repeat (first | (with_reducible assumption) | exact Below.refl _ _ | (with_reducible refine Below.alloc ?_ (by first | omega | (simp <;> omega)) _) | (with_reducible refine Below.setCell ?_ (by first | omega | (simp <;> omega)) _) | (with_reducible refine Below.drew ?_)))) (fun hS4 => ?_)
        clear hK K
        (try go_simp)
        refine wpAnyH_take (i := 15) (v := ?_) rfl (by kernel_rfl) (by kernel_rfl) (by kernel_rfl) (fun _ _ _ h => h) (Or.inl ⟨by rfl, ?_⟩) hS4 ?_
        rotate_left
        · (intro W hSw; (try dsimp only at hSw); go_split_ands; go_simp; (try with_reducible rfl))
        (try go_simp)
        refine wpAnyH_done (by kernel_rfl) ?_ _
        (try go_simp)
        go_wp2_with fail
        go_meet
        exact ⟨_, o9, R9x, R9y, rfl, rfl, rfl, by first | omega | (simp; done) | (simp; omega), by simp [go_sem], by simp [go_sem], Ho9, hn9, hz9, (show Below _ _ _ from (by repeat (first | (with_reducible assumption) | exact Below.refl _ _ | (with_reducible refine Below.alloc ?_ (by first | omega | (simp <;> omega)) _) | (with_reducible refine Below.setCell ?_ (by first | omega | (simp <;> omega)) _) | (with_reducible refine Below.drew ?_))))⟩
      · skip
        go_simp
        refine hK.out _ _ (hAll.out _ (by repeat (first | (with_reducible assumption) | exact Below.refl _ _ | (with_reducible refine Below.alloc ?_ (by first | omega | (simp <;> omega)) _) | (with_reducible refine Below.setCell ?_ (by first | omega | (simp <;> omega)) _) | (with_reducible refine Below.drew ?_)))) (fun hS5 => ?_)
        clear hK K
        (try go_simp)
        refine wpAnyH_ready (rs := [7]) (by kernel_rfl) (by simp) ?_
        refine (AllReadyH.cons rfl (fun K hK => ?_) AllReadyH.nil)
        go_simp
        go_wp2_with (go_at_call 40; refine Calls.mono (hft A1 d1 B7 c7 _ (hE1'.below (show Below w6.heap.size w6 _ from (by repeat (first | (with_reducible assumption) | exact Below.refl _ _ | (with_reducible refine Below.alloc ?_ (by first | omega | (simp <;> omega)) _) | (with_reducible refine Below.setCell ?_ (by first | omega | (simp <;> omega)) _) | (with_reducible refine Below.drew ?_)))) (Nat.le_refl _)) (HY7.out.below (show Below wA.heap.size wA _ from (by repeat (first | (with_reducible assumption) | exact Below.refl _ _ | (with_reducible refine Below.alloc ?_ (by first | omega | (simp <;> omega)) _) | (with_reducible refine Below.setCell ?_ (by first | omega | (simp <;> omega)) _) | (with_reducible refine Below.drew ?_)))) (Nat.le_refl _))) ?_; rintro e w9 ⟨o9, rfl, hn9, hz9, hb9⟩)
        have hTw9 : Below wA.heap.size wA w9 := bt (show Below wA.heap.size wA _ from (by repeat (first | (with_reducible assumption) | exact Below.refl _ _ | (with_reducible refine Below.alloc ?_ (by first | omega | (simp <;> omega)) _) | (with_reducible refine Below.setCell ?_ (by first | omega | (simp <;> omega)) _) | (with_reducible refine Below.drew ?_)))) (Nat.le_refl _) hb9
        have hsw9 := hTw9.size
        have hzw9 := hb9.size
        (try simp only [World.size_alloc, World.size_drew, World.size_setCell] at hzw9)
        have cb9w9_0 : w9.cell? ⟨w6.heap.size, 0, none⟩ = some (.int .i64 0) := (hb9.cell (p := ⟨w6.heap.size, 0, none⟩) (by show w6.heap.size < _; first | omega | (simp; done) | (simp; omega))).trans (by first | exact cnone_0 | (simp [go_sem]))
        have fb9w9_0 : w9.frozen? ⟨w6.heap.size, 0, none⟩ = false := (hb9.frozen (p := ⟨w6.heap.size, 0, none⟩) (by show w6.heap.size < _; first | omega | (simp; done) | (simp; omega))).trans (by first | exact fnone_0 | (simp [go_sem]))
        have cb9w9_1 : w9.cell? ⟨w6.heap.size, 1, none⟩ = some (.int .i64 0) := (hb9.cell (p := ⟨w6.heap.size, 1, none⟩) (by show w6.heap.size < _; first | omega | (simp; done) | (simp; omega))).trans (by first | exact cnone_1 | (simp [go_sem]))
        have fb9w9_1 : w9.frozen? ⟨w6.heap.size, 1, none⟩ = false := (hb9.frozen (p := ⟨w6.heap.size, 1, none⟩) (by show w6.heap.size < _; first | omega | (simp; done) | (simp; omega))).trans (by first | exact fnone_1 | (simp [go_sem]))
        have lb9w9 : w6.heap.size < w9.heap.size := by first | omega | (simp at hzw9; omega)
        obtain ⟨R9x, R9y, hxy⟩ : ∃ x y, rgO o9 = .agg #[.int .i64 x, .int .i64 y] := ⟨_, _, rfl⟩
        rw [hxy]
        have Ho9 : Aside (rgO o9 = .agg #[.int .i64 R9x, .int .i64 R9y]) := hxy
        clear hxy
        refine hK.out _ _ (hAll.out _ hTw9) (fun hS6 => ?_)
        clear hK K
        (try go_simp)
        refine wpAnyH_take (i := 8) (v := ?_) rfl (by kernel_rfl) (by kernel_rfl) (by kernel_rfl) (fun _ _ _ h => h) (Or.inl ⟨by rfl, ?_⟩) hS6 ?_
        rotate_left
        · (intro W hSw; (try dsimp only at hSw); go_split_ands; go_simp; (try with_reducible rfl))
        (try go_simp)
        refine wpAnyH_take (i := 9) (v := ?_) rfl (by kernel_rfl) (by kernel_rfl) (by kernel_rfl) (fun _ _ _ h => h) (Or.inl ⟨by rfl, ?_⟩) hS6 ?_
        rotate_left
        · (intro W hSw; (try dsimp only at hSw); go_split_ands; go_simp; (try with_reducible rfl))
        (try go_simp)
        refine wpAnyH_take (i := 10) (v := ?_) rfl (by kernel_rfl) (by kernel_rfl) (by kernel_rfl) (fun _ _ _ h => h) (Or.inl ⟨by rfl, ?_⟩) hS6 ?_
        rotate_left
        · (intro W hSw; (try dsimp only at hSw); go_split_ands; go_simp; (try with_reducible rfl))
        (try go_simp)
        refine wpAnyH_take (i := 11) (v := ?_) rfl (by kernel_rfl) (by kernel_rfl) (by kernel_rfl) (fun _ _ _ h => h) (Or.inl ⟨by rfl, ?_⟩) hS6 ?_
        rotate_left
        · (intro W hSw; (try dsimp only at hSw); go_split_ands; go_simp; (try with_reducible rfl))
        (try go_simp)
        refine wpAnyH_take (i := 13) (v := ?_) rfl (by kernel_rfl) (by kernel_rfl) (by kernel_rfl) (fun _ _ _ h => h) (Or.inl ⟨by rfl, ?_⟩) hS6 ?_
        rotate_left
        · (intro W hSw; (try dsimp only at hSw); go_split_ands; go_simp; (try with_reducible rfl))
        (try go_simp)
        refine wpAnyH_ready (rs := [14]) (by kernel_rfl) (by simp) ?_
        refine (AllReadyH.cons rfl (fun K hK => ?_) AllReadyH.nil)
        go_simp
        refine hK.out _ _ (hAll.out _ (by repeat (first | (with_reducible assumption) | exact Below.refl _ _ | (with_reducible refine Below.alloc ?_ (by first | omega | (simp <;> omega)) _) | (with_reducible refine Below.setCell ?_ (by first | omega | (simp <;> omega)) _) | (with_reducible refine Below.drew ?_)))) (fun hS7 => ?_)
        clear hK K
        (try go_simp)
        refine wpAnyH_take (i := 15) (v := ?_) rfl (by kernel_rfl) (by kernel_rfl) (by kernel_rfl) (fun _ _ _ h => h) (Or.inl ⟨by rfl, ?_⟩) hS7 ?_
        rotate_left
        · (intro W hSw; (try dsimp only at hSw); go_split_ands; go_simp; (try with_reducible rfl))
        (try go_simp)
        refine wpAnyH_done (by kernel_rfl) ?_ _
        (try go_simp)
        go_wp2_with fail
        go_meet
        exact ⟨_, o9, R9x, R9y, rfl, rfl, rfl, by first | omega | (simp; done) | (simp; omega), by simp [go_sem, cb9w9_0, cb9w9_1, lb9w9], by simp [go_sem, cb9w9_0, cb9w9_1, lb9w9], Ho9, hn9, hz9, (show Below _ _ _ from (by repeat (first | (with_reducible assumption) | exact Below.refl _ _ | (with_reducible refine Below.alloc ?_ (by first | omega | (simp <;> omega)) _) | (with_reducible refine Below.setCell ?_ (by first | omega | (simp <;> omega)) _) | (with_reducible refine Below.drew ?_))))⟩
    · skip
      go_simp
      refine hK.out _ _ (hAll.out _ (by repeat (first | (with_reducible assumption) | exact Below.refl _ _ | (with_reducible refine Below.alloc ?_ (by first | omega | (simp <;> omega)) _) | (with_reducible refine Below.setCell ?_ (by first | omega | (simp <;> omega)) _) | (with_reducible refine Below.drew ?_)))) (fun hS8 => ?_)
      clear hK K
      (try go_simp)
      refine wpAnyH_ready (rs := [5]) (by kernel_rfl) (by simp) ?_
      refine (AllReadyH.cons rfl (fun K hK => ?_) AllReadyH.nil)
      go_simp
      go_wp2_with (go_at_call 16; refine Calls.mono (hcp _ (hBA.trans (Below.mono (show Below wA.heap.size wA _ from (by repeat (first | (with_reducible assumption) | exact Below.refl _ _ | (with_reducible refine Below.alloc ?_ (by first | omega | (simp <;> omega)) _) | (with_reducible refine Below.setCell ?_ (by first | omega | (simp <;> omega)) _) | (with_reducible refine Below.drew ?_)))) hBA.size))) ?_; rintro e w6 ⟨A1, d1, rfl, hc1, hc2, hE1, hb6⟩)
      have hTw6 : Below wA.heap.size wA w6 := bt (show Below wA.heap.size wA _ from (by repeat (first | (with_reducible assumption) | exact Below.refl _ _ | (with_reducible refine Below.alloc ?_ (by first | omega | (simp <;> omega)) _) | (with_reducible refine Below.setCell ?_ (by first | omega | (simp <;> omega)) _) | (with_reducible refine Below.drew ?_)))) (Nat.le_refl _) hb6
      have hsw6 := hTw6.size
      have hzw6 := hb6.size
      (try simp only [World.size_alloc, World.size_drew, World.size_setCell] at hzw6)
      have cb9w6_0 : w6.cell? ⟨wA.heap.size, 0, none⟩ = some (.int .i64 0) := (hb6.cell (p := ⟨wA.heap.size, 0, none⟩) (by show wA.heap.size < _; first | omega | (simp; done) | (simp; omega))).trans (by first | exact cnone_0 | (simp [go_sem]))
      have fb9w6_0 : w6.frozen? ⟨wA.heap.size, 0, none⟩ = false := (hb6.frozen (p := ⟨wA.heap.size, 0, none⟩) (by show wA.heap.size < _; first | omega | (simp; done) | (simp; omega))).trans (by first | exact fnone_0 | (simp [go_sem]))
      have cb9w6_1 : w6.cell? ⟨wA.heap.size, 1, none⟩ = some (.int .i64 0) := (hb6.cell (p := ⟨wA.heap.size, 1, none⟩) (by show wA.heap.size < _; first | omega | (simp; done) | (simp; omega))).trans (by first | exact cnone_1 | (simp [go_sem]))
      have fb9w6_1 : w6.frozen? ⟨wA.heap.size, 1, none⟩ = false := (hb6.frozen (p := ⟨wA.heap.size, 1, none⟩) (by show wA.heap.size < _; first | omega | (simp; done) | (simp; omega))).trans (by first | exact fnone_1 | (simp [go_sem]))
      have lb9w6 : wA.heap.size < w6.heap.size := by first | omega | (simp at hzw6; omega)
      have hE1' : Ranges w6 0 A1 ts := (rngL_at.1 hE1).mono (Nat.zero_le _)
      refine hK.out _ _ (hAll.out _ hTw6) (fun hS9 => ?_)
      clear hK K
      (try go_simp)
      refine wpAnyH_ready (rs := [7]) (by kernel_rfl) (by simp) ?_
      refine (AllReadyH.cons rfl (fun K hK => ?_) AllReadyH.nil)
      go_simp
      go_wp2_with (go_at_call 40; refine Calls.mono (hft A1 d1 B7 c7 _ (hE1'.below (show Below w6.heap.size w6 _ from (by repeat (first | (with_reducible assumption) | exact Below.refl _ _ | (with_reducible refine Below.alloc ?_ (by first | omega | (simp <;> omega)) _) | (with_reducible refine Below.setCell ?_ (by first | omega | (simp <;> omega)) _) | (with_reducible refine Below.drew ?_)))) (Nat.le_refl _)) (HY7.out.below (show Below wA.heap.size wA _ from (by repeat (first | (with_reducible assumption) | exact Below.refl _ _ | (with_reducible refine Below.alloc ?_ (by first | omega | (simp <;> omega)) _) | (with_reducible refine Below.setCell ?_ (by first | omega | (simp <;> omega)) _) | (with_reducible refine Below.drew ?_)))) (Nat.le_refl _))) ?_; rintro e w9 ⟨o9, rfl, hn9, hz9, hb9⟩)
      have hTw9 : Below wA.heap.size wA w9 := bt (show Below wA.heap.size wA _ from (by repeat (first | (with_reducible assumption) | exact Below.refl _ _ | (with_reducible refine Below.alloc ?_ (by first | omega | (simp <;> omega)) _) | (with_reducible refine Below.setCell ?_ (by first | omega | (simp <;> omega)) _) | (with_reducible refine Below.drew ?_)))) (Nat.le_refl _) hb9
      have hsw9 := hTw9.size
      have hzw9 := hb9.size
      (try simp only [World.size_alloc, World.size_drew, World.size_setCell] at hzw9)
      have cb9w9_0 : w9.cell? ⟨wA.heap.size, 0, none⟩ = some (.int .i64 0) := (hb9.cell (p := ⟨wA.heap.size, 0, none⟩) (by show wA.heap.size < _; first | omega | (simp; done) | (simp; omega))).trans (by first | exact cb9w6_0 | (simp [go_sem]))
      have fb9w9_0 : w9.frozen? ⟨wA.heap.size, 0, none⟩ = false := (hb9.frozen (p := ⟨wA.heap.size, 0, none⟩) (by show wA.heap.size < _; first | omega | (simp; done) | (simp; omega))).trans (by first | exact fb9w6_0 | (simp [go_sem]))
      have cb9w9_1 : w9.cell? ⟨wA.heap.size, 1, none⟩ = some (.int .i64 0) := (hb9.cell (p := ⟨wA.heap.size, 1, none⟩) (by show wA.heap.size < _; first | omega | (simp; done) | (simp; omega))).trans (by first | exact cb9w6_1 | (simp [go_sem]))
      have fb9w9_1 : w9.frozen? ⟨wA.heap.size, 1, none⟩ = false := (hb9.frozen (p := ⟨wA.heap.size, 1, none⟩) (by show wA.heap.size < _; first | omega | (simp; done) | (simp; omega))).trans (by first | exact fb9w6_1 | (simp [go_sem]))
      have lb9w9 : wA.heap.size < w9.heap.size := by first | omega | (simp at hzw9; omega)
      obtain ⟨R9x, R9y, hxy⟩ : ∃ x y, rgO o9 = .agg #[.int .i64 x, .int .i64 y] := ⟨_, _, rfl⟩
      rw [hxy]
      have Ho9 : Aside (rgO o9 = .agg #[.int .i64 R9x, .int .i64 R9y]) := hxy
      clear hxy
      refine hK.out _ _ (hAll.out _ hTw9) (fun hS10 => ?_)
      clear hK K
      (try go_simp)
      refine wpAnyH_take (i := 8) (v := ?_) rfl (by kernel_rfl) (by kernel_rfl) (by kernel_rfl) (fun _ _ _ h => h) (Or.inl ⟨by rfl, ?_⟩) hS10 ?_
      rotate_left
      · (intro W hSw; (try dsimp only at hSw); go_split_ands; go_simp; (try with_reducible rfl))
      (try go_simp)
      refine wpAnyH_take (i := 9) (v := ?_) rfl (by kernel_rfl) (by kernel_rfl) (by kernel_rfl) (fun _ _ _ h => h) (Or.inl ⟨by rfl, ?_⟩) hS10 ?_
      rotate_left
      · (intro W hSw; (try dsimp only at hSw); go_split_ands; go_simp; (try with_reducible rfl))
      (try go_simp)
      refine wpAnyH_take (i := 10) (v := ?_) rfl (by kernel_rfl) (by kernel_rfl) (by kernel_rfl) (fun _ _ _ h => h) (Or.inl ⟨by rfl, ?_⟩) hS10 ?_
      rotate_left
      · (intro W hSw; (try dsimp only at hSw); go_split_ands; go_simp; (try with_reducible rfl))
      (try go_simp)
      refine wpAnyH_take (i := 11) (v := ?_) rfl (by kernel_rfl) (by kernel_rfl) (by kernel_rfl) (fun _ _ _ h => h) (Or.inl ⟨by rfl, ?_⟩) hS10 ?_
      rotate_left
      · (intro W hSw; (try dsimp only at hSw); go_split_ands; go_simp; (try with_reducible rfl))
      (try go_simp)
      refine wpAnyH_take (i := 13) (v := ?_) rfl (by kernel_rfl) (by kernel_rfl) (by kernel_rfl) (fun _ _ _ h => h) (Or.inl ⟨by rfl, ?_⟩) hS10 ?_
      rotate_left
      · (intro W hSw; (try dsimp only at hSw); go_split_ands; go_simp; (try with_reducible rfl))
      (try go_simp)
      refine wpAnyH_ready (rs := [14]) (by kernel_rfl) (by simp) ?_
      refine (AllReadyH.cons rfl (fun K hK => ?_) AllReadyH.nil)
      go_simp
      refine hK.out _ _ (hAll.out _ (by repeat (first | (with_reducible assumption) | exact Below.refl _ _ | (with_reducible refine Below.alloc ?_ (by first | omega | (simp <;> omega)) _) | (with_reducible refine Below.setCell ?_ (by first | omega | (simp <;> omega)) _) | (with_reducible refine Below.drew ?_)))) (fun hS11 => ?_)
      clear hK K
      (try go_simp)
      refine wpAnyH_take (i := 15) (v := ?_) rfl (by kernel_rfl) (by kernel_rfl) (by kernel_rfl) (fun _ _ _ h => h) (Or.inl ⟨by rfl, ?_⟩) hS11 ?_
      rotate_left
      · (intro W hSw; (try dsimp only at hSw); go_split_ands; go_simp; (try with_reducible rfl))
      (try go_simp)
      refine wpAnyH_done (by kernel_rfl) ?_ _
      (try go_simp)
      go_wp2_with fail
      go_meet
      exact ⟨_, o9, R9x, R9y, rfl, rfl, rfl, by first | omega | (simp; done) | (simp; omega), by simp [go_sem, cb9w9_0, cb9w9_1, lb9w9], by simp [go_sem, cb9w9_0, cb9w9_1, lb9w9], Ho9, hn9, hz9, (show Below _ _ _ from (by repeat (first | (with_reducible assumption) | exact Below.refl _ _ | (with_reducible refine Below.alloc ?_ (by first | omega | (simp <;> omega)) _) | (with_reducible refine Below.setCell ?_ (by first | omega | (simp <;> omega)) _) | (with_reducible refine Below.drew ?_))))⟩
  case rest =>
    obtain ⟨b9, o9, R9x, R9y, rfl, rfl, rfl, l9, c90, c91, Ho9, Hn9, Hz9, hT⟩ := hcut
    obtain ⟨wB, hWB⟩ : ∃ X, X = wc := ⟨_, rfl⟩
    subst hWB
    have hzB := hT.out.size
    replace q0 := (hT.out.cell (p := ⟨w.heap.size, 0, none⟩) hA0).trans q0
    replace q1 := (hT.out.cell (p := ⟨w.heap.size, 1, none⟩) hA0).trans q1
    replace q2 := (hT.out.cell (p := ⟨w.heap.size, 2, none⟩) hA0).trans q2
    replace q3 := (hT.out.cell (p := ⟨w.heap.size, 3, none⟩) hA0).trans q3
    replace q4 := (hT.out.cell (p := ⟨w.heap.size, 4, none⟩) hA0).trans q4
    replace q5 := (hT.out.cell (p := ⟨w.heap.size, 5, none⟩) hA0).trans q5
    replace q6 := (hT.out.cell (p := ⟨w.heap.size, 6, none⟩) hA0).trans q6
    replace q7 := (hT.out.cell (p := ⟨w.heap.size, 7, none⟩) hA0).trans q7
    replace q8 := (hT.out.cell (p := ⟨w.heap.size, 8, none⟩) hA0).trans q8
    replace q9 := (hT.out.cell (p := ⟨w.heap.size, 9, none⟩) hA0).trans q9
    replace q10 := (hT.out.cell (p := ⟨w.heap.size, 10, none⟩) hA0).trans q10
    replace q11 := (hT.out.cell (p := ⟨w.heap.size, 11, none⟩) hA0).trans q11
    have hBB : Below w.heap.size w wB := bt hBA (Nat.le_refl _) hT.out
    have HY7' : Aside (Ints wB 0 B7 ls) := HY7.out.below hT.out (Nat.le_refl _)
    go_wp2_with fail
    exact fits_t4 r c i lo A _ cc ts lo2 B2 _ c2 ls w HX h0 hn hl HY h02 hm hl2 wB hBB fa fC er f8 Hf8 HFR Her B7 c7 HY7' (by omega) q0 q1 q2 q3 q4 q5 q6 q7 q8 q9 q10 q11 b9 l9 o9 R9x R9y Ho9 c90 c91 Hn9 Hz9

set_option maxRecDepth 100000 in
set_option maxHeartbeats 4000000 in
theorem fits_law (r : TR) (c i : Int) (lo : Nat) (A : Option Addr) (n cc : Nat) (ts : List R) (lo2 : Nat) (B2 : Option Addr) (m c2 : Nat) (ls : List Int) (w : World) (hx : Ranges w lo A ts) (h0 : A = none → n = 0 ∧ cc = 0) (hn : Aside (ts.length = n)) (hl : n ≤ maxLen)
    (hy : Ints w lo2 B2 ls) (h02 : B2 = none → m = 0 ∧ c2 = 0) (hm : Aside (ls.length = m)) (hl2 : m ≤ maxLen) :
    Calls Try.prog 8 #[bV r c i, .slice A n cc, .slice B2 m c2] w fun e w' => e = .returned (.bool true) ∧ Below w.heap.size w w' := by
  have hlong := fun (W : World) => long_any n W
  have hkn := fun (W : World) => known_any W
  have HX : Aside (Ranges w lo A ts) := hx
  have HY : Aside (Ints w lo2 B2 ls) := hy
  clear hx hy
  unfold bV
  by_cases hlo : (150 < n ∧ n ≤ 1000) ∨ 1100 < n
  · rw [decide_eq_true hlo] at hlong
    clear hlo
    go_enter Try.func8, Try.ntmps8
    go_wp2_with fail
    refine (hlong _).mono ?_
    rintro e w0x ⟨rfl, rfl⟩
    go_wp2_with fail
    refine (hkn _).mono ?_
    rintro e w5 ⟨rfl, hb5⟩
    go_wp2
    go_ret
    exact ⟨rfl, (by (try show Below _ _ _); repeat (first | (with_reducible refine Below.setCell ?_ (by first | omega | (simp <;> omega)) _) | (with_reducible refine Below.alloc ?_ (by first | omega | (simp <;> omega)) _) | (with_reducible refine Below.drew ?_) | (with_reducible exact Below.refl _ _) | (with_reducible exact hb5) | (with_reducible refine below_call ?_ (by assumption) (by first | omega | (simp <;> omega))) | (with_reducible refine below_call ?_ (Drew.below (by assumption) _) (by first | omega | (simp <;> omega)))))⟩
  · rw [decide_eq_false hlo] at hlong
    have hsh : n ≤ 1100 := by omega
    clear hlo
    by_cases hml : 1100 < m
    · have hmz : (1100 : Int) < (m : Int) := by omega
      go_enter Try.func8, Try.ntmps8
      go_wp2_with fail
      refine (hlong _).mono ?_
      rintro e w0x ⟨rfl, rfl⟩
      go_wp2_with fail
      refine (hkn _).mono ?_
      rintro e w5 ⟨rfl, hb5⟩
      go_wp2
      go_ret
      exact ⟨rfl, (by (try show Below _ _ _); repeat (first | (with_reducible refine Below.setCell ?_ (by first | omega | (simp <;> omega)) _) | (with_reducible refine Below.alloc ?_ (by first | omega | (simp <;> omega)) _) | (with_reducible refine Below.drew ?_) | (with_reducible exact Below.refl _ _) | (with_reducible exact hb5) | (with_reducible refine below_call ?_ (by assumption) (by first | omega | (simp <;> omega))) | (with_reducible refine below_call ?_ (Drew.below (by assumption) _) (by first | omega | (simp <;> omega)))))⟩
    · have hmz : ¬ (1100 : Int) < (m : Int) := by omega
      have hl2' : m ≤ 1100 := by omega
      obtain ⟨⟨fa, fC⟩, hfr⟩ : ∃ x, fitA r (seenZ ts ls) (oneC (c, i)) 0 = x := ⟨_, rfl⟩
      obtain ⟨er, her⟩ : ∃ er, errF r c i ts ls = er := ⟨_, rfl⟩
      have HFR : Aside (fitA r (seenZ ts ls) (oneC (c, i)) 0 = (fa, fC)) := hfr
      have Her : Aside (errF r c i ts ls = er) := her
      obtain ⟨f8, hf8⟩ : ∃ x, x = if er = 0 then fa else 0 := ⟨_, rfl⟩
      have Hf8 : Aside (f8 = if er = 0 then fa else 0) := hf8
      obtain ⟨i5, hi5, hz5, hs5, hb5⟩ := info_parts infoSeen
      clear hfr her hf8 hml hl hl2
      go_enter Try.func8, Try.ntmps8
      refine wp_tail 3 (R := fitsTail3) (show fitsTail3 = dropC 3 (bodyC Try.f8) from rfl) ?_
      conv => arg 2; simp only [bodyC, Try.f8, Option.getD_some, dropC, mkC]
      go_wp2_with fail
      refine (hlong _).mono ?_
      rintro e w0x ⟨rfl, rfl⟩
      go_upto_region 3 with fail
      obtain ⟨E0, hNE0⟩ : ∃ X, X = w.alloc (.cells #[.int .i64 r.frost, .int .i64 r.thaw, .int .i64 r.gain, .int .i64 r.full, .int .i64 r.ice, .int .i64 r.most, .int .i64 r.melt, .int .i64 r.rlow, .int .i64 r.rhigh, .int .i64 r.pull, .int .i64 c, .int .i64 i] 29) := ⟨_, rfl⟩
      have hsE0 : E0.heap.size = w.heap.size + 1 := by rw [hNE0]; simp
      have hbE0 : Below w.heap.size w E0 := by rw [hNE0]; exact (Below.refl _ _).alloc (Nat.le_refl _) _
      have q0 : E0.cell? ⟨w.heap.size, 0, none⟩ = some (.int .i64 r.frost) := by rw [hNE0]; simp [go_sem]
      have q1 : E0.cell? ⟨w.heap.size, 1, none⟩ = some (.int .i64 r.thaw) := by rw [hNE0]; simp [go_sem]
      have q2 : E0.cell? ⟨w.heap.size, 2, none⟩ = some (.int .i64 r.gain) := by rw [hNE0]; simp [go_sem]
      have q3 : E0.cell? ⟨w.heap.size, 3, none⟩ = some (.int .i64 r.full) := by rw [hNE0]; simp [go_sem]
      have q4 : E0.cell? ⟨w.heap.size, 4, none⟩ = some (.int .i64 r.ice) := by rw [hNE0]; simp [go_sem]
      have q5 : E0.cell? ⟨w.heap.size, 5, none⟩ = some (.int .i64 r.most) := by rw [hNE0]; simp [go_sem]
      have q6 : E0.cell? ⟨w.heap.size, 6, none⟩ = some (.int .i64 r.melt) := by rw [hNE0]; simp [go_sem]
      have q7 : E0.cell? ⟨w.heap.size, 7, none⟩ = some (.int .i64 r.rlow) := by rw [hNE0]; simp [go_sem]
      have q8 : E0.cell? ⟨w.heap.size, 8, none⟩ = some (.int .i64 r.rhigh) := by rw [hNE0]; simp [go_sem]
      have q9 : E0.cell? ⟨w.heap.size, 9, none⟩ = some (.int .i64 r.pull) := by rw [hNE0]; simp [go_sem]
      have q10 : E0.cell? ⟨w.heap.size, 10, none⟩ = some (.int .i64 c) := by rw [hNE0]; simp [go_sem]
      have q11 : E0.cell? ⟨w.heap.size, 11, none⟩ = some (.int .i64 i) := by rw [hNE0]; simp [go_sem]
      rw [← hNE0]
      clear hNE0
      have hBWE : Below w.heap.size w E0 := hbE0
      clear hbE0
      have hown := ownsRow_emptyK E0 82 1
      rw [hsE0] at hown
      go_wp2_with (at_builtin; go_loud (refine wpList_append_copy intL rfl _ _ _ (by rfl) 82 i5 _ 8 Try.underlying79 hi5 hz5 hs5 hb5 rfl _ (by rfl) hown B2 m c2 lo2 ls (by rfl) (intL_at.2 (HY.out.below (hBWE.trans ((Below.refl E0.heap.size E0).alloc (Nat.le_refl _) _ |>.mono hBWE.size)) (Nat.le_refl _))) hm.out h02 (by unfold maxLen; omega) (by omega) (by rw [World.size_alloc, hsE0]; omega) ?_); intro A6 c6 w6 hat6 hgr6 hn6 hm6)
      have hT6 : Below E0.heap.size E0 w6 := Below.grown ((Below.refl _ _).alloc (Nat.le_refl _) _) hgr6 (by simp) (fun k e => by cases e; omega)
      have hs6 := hT6.size
      replace q0 := (hT6.cell (p := ⟨w.heap.size, 0, none⟩) (by show w.heap.size < _; omega)).trans q0
      replace q1 := (hT6.cell (p := ⟨w.heap.size, 1, none⟩) (by show w.heap.size < _; omega)).trans q1
      replace q2 := (hT6.cell (p := ⟨w.heap.size, 2, none⟩) (by show w.heap.size < _; omega)).trans q2
      replace q3 := (hT6.cell (p := ⟨w.heap.size, 3, none⟩) (by show w.heap.size < _; omega)).trans q3
      replace q4 := (hT6.cell (p := ⟨w.heap.size, 4, none⟩) (by show w.heap.size < _; omega)).trans q4
      replace q5 := (hT6.cell (p := ⟨w.heap.size, 5, none⟩) (by show w.heap.size < _; omega)).trans q5
      replace q6 := (hT6.cell (p := ⟨w.heap.size, 6, none⟩) (by show w.heap.size < _; omega)).trans q6
      replace q7 := (hT6.cell (p := ⟨w.heap.size, 7, none⟩) (by show w.heap.size < _; omega)).trans q7
      replace q8 := (hT6.cell (p := ⟨w.heap.size, 8, none⟩) (by show w.heap.size < _; omega)).trans q8
      replace q9 := (hT6.cell (p := ⟨w.heap.size, 9, none⟩) (by show w.heap.size < _; omega)).trans q9
      replace q10 := (hT6.cell (p := ⟨w.heap.size, 10, none⟩) (by show w.heap.size < _; omega)).trans q10
      replace q11 := (hT6.cell (p := ⟨w.heap.size, 11, none⟩) (by show w.heap.size < _; omega)).trans q11
      have hBA : Below w.heap.size w w6 := bt hBWE (Nat.le_refl _) hT6
      have hY6 : Aside (Ints w6 0 A6 ls) := (intL_at.1 hat6).mono (Nat.zero_le _)
      exact fits_t3 r c i lo A n cc ts lo2 B2 m c2 ls w HX h0 hn hsh HY h02 hm hl2' w6 hBA fa fC er f8 Hf8 HFR Her A6 c6 hY6 (by omega) q0 q1 q2 q3 q4 q5 q6 q7 q8 q9 q10 q11

end Go.Proofs.Ytlkecgjpmnganaa
