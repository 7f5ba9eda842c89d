/- Contracts: the reference's Hour. -/
import Derived.Test.YtlkecgjpmnganaaThTab3
import Derived.Test.YtlkecgjpmnganaaThRef2
import Derived.Test.YtlkecgjpmnganaaSplit
import Derived.RegionTactic
import Derived.BigQuiet
import Derived.BigRegion
import Derived.Deep.CutRange
set_option linter.unusedSimpArgs false
set_option linter.unusedVariables false
namespace Go.Proofs.Ytlkecgjpmnganaa
open Go.RowKit Go.Shelf

/-! ### storing what is there -/
theorem setCell_self {w : World} {b o : Nat} {v : Value} (h : w.cell? ⟨b, o, none⟩ = some v) : w.setCell ⟨b, o, none⟩ v = w := by
  unfold World.cell? at h
  unfold World.setCell
  cases w with
  | mk heap tape drawn os output =>
    simp only at h ⊢
    congr 1
    apply Array.ext_getElem?
    intro k
    rw [Array.getElem?_modify]
    split
    · rename_i hk
      subst hk
      cases hq : heap[b]? with
      | none => rfl
      | some ob =>
        rw [hq] at h
        cases ob <;> simp at h ⊢
        rename_i c t f
        apply Array.ext_getElem?
        intro j
        by_cases hj : o = j
        · subst hj
          rw [Array.getElem?_setIfInBounds_self, h]
          obtain ⟨hlt, _⟩ := Array.getElem?_eq_some_iff.1 h
          simp [hlt]
        · rw [Array.getElem?_setIfInBounds_ne hj]
    · rfl
theorem putT_self {w : World} {b : Nat} {T : Tb} (h : Tab w b T) : putT w b T = w := by
  unfold putT
  have hr := h.range
  generalize tabL T = l at hr
  generalize 0 = o at hr
  induction l generalizing o with
  | nil => rfl
  | cons v l ih =>
    show World.setCells (w.setCell ⟨b, o, none⟩ v) b (o + 1) l = w
    have h0 := hr 0 v rfl
    rw [Nat.add_zero] at h0
    rw [setCell_self h0]
    refine ih (o + 1) fun j u hu => ?_
    have := hr (j + 1) u (by simpa using hu)
    rwa [show o + (j + 1) = o + 1 + j by omega] at this
theorem Tab.zero (w : World) (b : Nat) (hb : b = w.heap.size) (fr : Nat × Nat) : Tab (w.alloc (.cells Try.zeroCells63 63 fr)) b (fun _ => (0, 0)) := by
  subst hb
  rw [zero_tab]
  exact Tab.new _ _ _ _
theorem store_zero_under (W : World) (b : Nat) (ob : Obj) (hb : b = W.heap.size) : (storeCells ⟨b, 0, none⟩ Try.zeroCells63.toList 0).run Try.prog ((W.alloc (.cells Try.zeroCells63 63)).alloc ob) = .ok () ((W.alloc (.cells Try.zeroCells63 63)).alloc ob) := by
  subst hb
  have hT : Tab ((W.alloc (.cells Try.zeroCells63 63)).alloc ob) W.heap.size (fun _ => (0, 0)) := (Tab.zero W _ rfl _).below ((Below.refl (W.heap.size + 1) _).alloc (by simp) _) (by omega)
  have hW : Wri ((W.alloc (.cells Try.zeroCells63 63)).alloc ob) W.heap.size := (Wri.new W _ _).below ((Below.refl (W.heap.size + 1) _).alloc (by simp) _) (by omega)
  have := store_tab hT hW (fun _ => (0, 0))
  rw [putT_self hT, ← zero_tab] at this
  exact this

/-- what is allowed to be seen -/
def mayS (seen : Int) (ran : Bool) : Bool := !((decide (seen = 1) && ran) || (decide (seen = 2) && !ran))

/-- behind the reference's Hour -/
def RHourPost (w : World) (C : Cs) (e : Ending) (w' : World) : Prop := ∃ G, e = .returned (tabV G) ∧ Rep G C ∧ Below w.heap.size w w'

/-! ### what has been taken in -/
def HC (r : TR) (tl th : Int) (may : Bool → Bool) (C : Cs) (P : St → Int → Prop) : Cs := fun t n => ∃ s k, P s k ∧ k ∈ kindsT r tl th ∧ contr r may C s k t n
theorem HC_congr {r : TR} {tl th : Int} {may : Bool → Bool} {C : Cs} {P Q : St → Int → Prop} (h : ∀ s k n, C s n → k ∈ kindsT r tl th → (P s k ↔ Q s k)) (t : St) (n : Int) : HC r tl th may C P t n ↔ HC r tl th may C Q t n := by
  constructor
  · rintro ⟨s, k, hp, hk, hc⟩
    obtain ⟨m, hm, _⟩ := hc.2.2
    exact ⟨s, k, (h s k m hm hk).1 hp, hk, hc⟩
  · rintro ⟨s, k, hp, hk, hc⟩
    obtain ⟨m, hm, _⟩ := hc.2.2
    exact ⟨s, k, (h s k m hm hk).2 hp, hk, hc⟩
theorem mem_kinds {r : TR} {tl th k : Int} : k ∈ kindsT r tl th ↔ (k = 1 ∨ k = 2 ∨ k = 3) ∧ canT r tl th k = true := by
  unfold kindsT
  rw [List.mem_filter]
  simp
def Pmid (c i : Int) (s : St) (_ : Int) : Prop := s.1 < c ∨ (s.1 = c ∧ s.2 < i)
def Pin (c i q : Int) (s : St) (k : Int) : Prop := Pmid c i s k ∨ (s = (c, i) ∧ k < q)

theorem HC_zero (r : TR) (tl th : Int) (may : Bool → Bool) {C : Cs} (hin : CIn r C) : Rep (fun _ => none) (HC r tl th may C (Pmid 0 0)) := by
  rintro t n ⟨s, k, hp, hk, hc⟩
  obtain ⟨m, hm, _⟩ := hc.2.2
  obtain ⟨h1, h2, h3, h4⟩ := hin s m hm
  unfold Pmid at hp
  omega
theorem HC_row {r : TR} {tl th : Int} {may : Bool → Bool} {C : Cs} (hin : CIn r C) {G : Fl} {c i : Int} (hi : r.most < i) (h : Rep G (HC r tl th may C (Pmid c i))) : Rep G (HC r tl th may C (Pmid (c + 1) 0)) := by
  refine h.congr (HC_congr fun s k n hc hk => ?_)
  obtain ⟨h1, h2, h3, h4⟩ := hin s n hc
  unfold Pmid
  omega
theorem HC_full {r : TR} {tl th : Int} {may : Bool → Bool} {C : Cs} (hin : CIn r C) {G : Fl} {c : Int} (hi : r.full < c) (h : Rep G (HC r tl th may C (Pmid c 0))) : Rep G (hourC r tl th may C) := by
  refine h.congr fun t n => ?_
  constructor
  · rintro ⟨s, k, _, hk, hc⟩
    exact ⟨s, k, hk, hc⟩
  · rintro ⟨s, k, hk, hc⟩
    obtain ⟨m, hm, _⟩ := hc.2.2
    obtain ⟨h1, h2, h3, h4⟩ := hin s m hm
    refine ⟨s, k, ?_, hk, hc⟩
    unfold Pmid
    omega
theorem HC_skip {r : TR} {tl th : Int} {may : Bool → Bool} {C : Cs} {G : Fl} {c i : Int} (hn : ∀ n, ¬ C (c, i) n) (h : Rep G (HC r tl th may C (Pmid c i))) : Rep G (HC r tl th may C (Pmid c (i + 1))) := by
  refine h.congr (HC_congr fun s k n hc hk => ?_)
  have : ¬ (s.1 = c ∧ s.2 = i) := by
    rintro ⟨e1, e2⟩
    apply hn n
    rwa [show s = (c, i) from Prod.ext e1 e2] at hc
  unfold Pmid
  omega
theorem HC_in {r : TR} {tl th : Int} {may : Bool → Bool} {C : Cs} {G : Fl} {c i : Int} (h : Rep G (HC r tl th may C (Pmid c i))) : Rep G (HC r tl th may C (Pin c i 1)) := by
  refine h.congr (HC_congr fun s k n hc hk => ?_)
  have := (mem_kinds.1 hk).1
  unfold Pin
  constructor
  · exact Or.inl
  · rintro (h | ⟨_, h⟩)
    · exact h
    · omega
theorem HC_out {r : TR} {tl th : Int} {may : Bool → Bool} {C : Cs} {G : Fl} {c i : Int} (h : Rep G (HC r tl th may C (Pin c i 4))) : Rep G (HC r tl th may C (Pmid c (i + 1))) := by
  refine h.congr (HC_congr fun s k n hc hk => ?_)
  have := (mem_kinds.1 hk).1
  unfold Pin Pmid
  constructor
  · rintro (h | ⟨rfl, h⟩)
    · omega
    · dsimp only; omega
  · intro h
    by_cases e : s.1 = c ∧ s.2 = i
    · exact Or.inr ⟨Prod.ext e.1 e.2, by omega⟩
    · exact Or.inl (by omega)
/-- a kind that brings nothing -/
theorem HC_not {r : TR} {tl th : Int} {may : Bool → Bool} {C : Cs} {G : Fl} {c i q : Int} (hq : q ∈ kindsT r tl th → may (stepT r (c, i) q).2 = false) (h : Rep G (HC r tl th may C (Pin c i q))) : Rep G (HC r tl th may C (Pin c i (q + 1))) := by
  refine h.congr fun t n => ?_
  constructor
  · rintro ⟨s, k, hp, hk, hc⟩
    exact ⟨s, k, hp.imp id (fun h => ⟨h.1, by omega⟩), hk, hc⟩
  · rintro ⟨s, k, hp, hk, hc⟩
    refine ⟨s, k, ?_, hk, hc⟩
    rcases hp with hp | ⟨rfl, hp⟩
    · exact Or.inl hp
    · by_cases e : k = q
      · subst e
        have := hq hk
        rw [hc.1] at this
        cases this
      · exact Or.inr ⟨rfl, by omega⟩
/-- a kind that is taken in -/
theorem HC_add {r : TR} {tl th : Int} {may : Bool → Bool} {C : Cs} {G : Fl} {c i q : Int} {p : Int × Int} (hs : Rep1 (some p) (C (c, i))) (hq : q ∈ kindsT r tl th) (hm : may (stepT r (c, i) q).2 = true) (h : Rep G (HC r tl th may C (Pin c i q))) :
    Rep (addF G (stepT r (c, i) q).1 (some (bump (stepT r (c, i) q).2 p))) (HC r tl th may C (Pin c i (q + 1))) := by
  refine (h.kind hs q hm).congr fun t n => ?_
  constructor
  · rintro (⟨s, k, hp, hk, hc⟩ | hc)
    · exact ⟨s, k, hp.imp id (fun h => ⟨h.1, by omega⟩), hk, hc⟩
    · exact ⟨(c, i), q, Or.inr ⟨rfl, by omega⟩, hq, hc⟩
  · rintro ⟨s, k, hp, hk, hc⟩
    rcases hp with hp | ⟨rfl, hp⟩
    · exact Or.inl ⟨s, k, Or.inl hp, hk, hc⟩
    · by_cases e : k = q
      · subst e
        exact Or.inr hc
      · exact Or.inl ⟨_, k, Or.inr ⟨rfl, by omega⟩, hk, hc⟩
theorem HC_bd {r : TR} {tl th : Int} {may : Bool → Bool} {C : Cs} {P : St → Int → Prop} (h : ∀ s n, C s n → 0 ≤ n ∧ n ≤ 90000) : ∀ t n, HC r tl th may C P t n → 0 ≤ n ∧ n ≤ 100000 := by
  rintro t n ⟨s, k, _, _, _, _, m, hm, rfl⟩
  have := h s m hm
  split <;> omega

theorem drawnT {w w' : World} {n : Nat} (h : w.drewN n = w') : Below w.heap.size w w' := h ▸ Drew.below ⟨n, rfl⟩ _
/-- a number taken in, as the program writes it -/
theorem rawF_eq (G : Fl) (s : St) : rawF G s = (loR (G s), hiR (G s)) := by unfold rawF; cases G s <;> rfl
theorem lo_with {o : Option (Int × Int)} (ho : okO o) {p : Int × Int} : loR (withC o (some p)) = if loR o = 0 ∨ p.1 + 1 < loR o then p.1 + 1 else loR o := by
  cases o with
  | none => rfl
  | some q =>
    have := ho q rfl
    show min q.1 p.1 + 1 = if q.1 + 1 = 0 ∨ p.1 + 1 < q.1 + 1 then p.1 + 1 else q.1 + 1
    split <;> omega
theorem hi_with {o : Option (Int × Int)} (ho : okO o) {p : Int × Int} (hp : 0 ≤ p.2) : hiR (withC o (some p)) = max (hiR o) (p.2 + 1) := by
  cases o with
  | none => show p.2 + 1 = max 0 (p.2 + 1); omega
  | some q => show max q.2 p.2 + 1 = max (q.2 + 1) (p.2 + 1); omega
theorem raw_add0 (G : Fl) (s : St) (p : Int × Int) (hG : okO (G s)) (hp : 0 ≤ p.2) (h : loR (G s) = 0 ∨ p.1 + 1 < loR (G s)) : setT (setT (rawF G) s 0 (p.1 + 1)) s 1 (max (hiR (G s)) (p.2 + 1)) = rawF (addF G s (some p)) := by
  funext t
  unfold setT
  rw [rawF_eq (addF G s (some p))]
  unfold addF
  by_cases e : t = s
  · subst e
    simp only [if_true]
    rw [lo_with hG, hi_with hG hp, if_pos h]
    simp
  · simp only [if_neg e]
    exact rawF_eq G t
theorem raw_add1 (G : Fl) (s : St) (p : Int × Int) (hG : okO (G s)) (hp : 0 ≤ p.2) (h : ¬ (loR (G s) = 0 ∨ p.1 + 1 < loR (G s))) : setT (rawF G) s 1 (max (hiR (G s)) (p.2 + 1)) = rawF (addF G s (some p)) := by
  funext t
  unfold setT
  rw [rawF_eq (addF G s (some p))]
  unfold addF
  by_cases e : t = s
  · subst e
    simp only [if_true]
    rw [lo_with hG, hi_with hG hp, if_neg h, rawF_eq]
    simp
  · simp only [if_neg e]
    exact rawF_eq G t

noncomputable def hourTail3 : Code := dropC 3 (bodyC Try.f73)
set_option maxRecDepth 100000 in
set_option maxHeartbeats 4000000 in
theorem hour_t3 {z0 z1 z2 z6 z7 z11 z12 z13 z14 z15 z16 z17 z18 z19 z20 z21 z22 z23 z24 z25 z26 z27 z28 z29 z30 z31 z32 z33 z34 z35 z36 z37 z38 z39 z40 z41 z42 z43 z44 z45 z46 z47 z48 z49 z50 z51 z52 z53 z54 z55 z56 z57 z58 z59 z60 z61 z62 z63 z64 z65 z66 z67 z68 z69 z70 z71 z72 z73 z74 z75 z76 z77 z78 z79 z80 z81 z82 z83 z84 z85 z86 z87 z88 z89 z90 z91 z92 z93 z94 z95 z96 z97 z98 z99 z100 z101 z102 z103 z104 z105 z106 z107 z108 z109 z110 z111 z112 z113 z114 z115 z116 z117 z118 z119 z120 z121 z122 z123 : Value} (r : TR) (hr : TROk r) (F : Fl) (C : Cs) (tl th seen : Int) (w : World) (HF : Aside (Rep F C)) (Hin : Aside (CIn r C)) (Hbd : Aside (∀ s n, C s n → 0 ≤ n ∧ n ≤ 90000))
    (T : Tb) (r0 : Aside (∀ s, pk (T s) 0 = loR (F s))) (r1 : Aside (∀ s, pk (T s) 1 = hiR (F s))) (W : World) (hBW : Below w.heap.size w W) (b0 b1 b3 b4 b5 : Nat) (o0 : w.heap.size ≤ b0) (o1 : b0 < b1) (o2 : b1 < b3) (o3 : b3 < b4) (o4 : b4 < b5) (o5 : b5 < W.heap.size)
    (q0 : W.cell? ⟨b0, 0, none⟩ = some (.int .i64 r.frost)) (q1 : W.cell? ⟨b0, 1, none⟩ = some (.int .i64 r.thaw)) (q2 : W.cell? ⟨b0, 2, none⟩ = some (.int .i64 r.gain)) (q3 : W.cell? ⟨b0, 3, none⟩ = some (.int .i64 r.full)) (q4 : W.cell? ⟨b0, 4, none⟩ = some (.int .i64 r.ice)) (q5 : W.cell? ⟨b0, 5, none⟩ = some (.int .i64 r.most)) (q6 : W.cell? ⟨b0, 6, none⟩ = some (.int .i64 r.melt)) (q7 : W.cell? ⟨b0, 7, none⟩ = some (.int .i64 r.rlow)) (q8 : W.cell? ⟨b0, 8, none⟩ = some (.int .i64 r.rhigh)) (q9 : W.cell? ⟨b0, 9, none⟩ = some (.int .i64 r.pull))
    (hT1 : Tab W b1 T) (hT3 : Tab W b3 (fun _ => (0, 0))) (hW3 : Wri W b3) (hT4 : Tab W b4 (fun _ => (0, 0))) (hW4 : Wri W b4) (hcan : Aside (∀ k : Nat, 1 ≤ k → k ≤ 3 → W.cell? ⟨b5, k, none⟩ = some (.bool (canT r tl th k)))) :
    Code.wp Try.prog hourTail3 (bodyPost Try.prog Try.f73 (RHourPost w (hourC r tl th (mayS seen) C))) ⟨List.toArray (z0 :: z1 :: z2 :: .int .i64 seen :: .pointer (some ⟨b0, 0, none⟩) :: .pointer (some ⟨b1, 0, none⟩) :: z6 :: z7 :: .pointer (some ⟨b3, 0, none⟩) :: .pointer (some ⟨b4, 0, none⟩) :: .pointer (some ⟨b5, 0, none⟩) :: z11 :: z12 :: z13 :: z14 :: z15 :: z16 :: z17 :: z18 :: z19 :: z20 :: z21 :: z22 :: z23 :: z24 :: z25 :: z26 :: z27 :: z28 :: z29 :: z30 :: z31 :: z32 :: z33 :: z34 :: z35 :: z36 :: z37 :: z38 :: z39 :: z40 :: z41 :: z42 :: z43 :: z44 :: z45 :: z46 :: z47 :: z48 :: z49 :: z50 :: z51 :: z52 :: z53 :: z54 :: z55 :: z56 :: z57 :: z58 :: z59 :: z60 :: z61 :: z62 :: z63 :: z64 :: z65 :: z66 :: z67 :: z68 :: z69 :: z70 :: z71 :: z72 :: z73 :: z74 :: z75 :: z76 :: z77 :: z78 :: z79 :: z80 :: z81 :: z82 :: z83 :: z84 :: z85 :: z86 :: z87 :: z88 :: z89 :: z90 :: z91 :: z92 :: z93 :: z94 :: z95 :: z96 :: z97 :: z98 :: z99 :: z100 :: z101 :: z102 :: z103 :: z104 :: z105 :: z106 :: z107 :: z108 :: z109 :: z110 :: z111 :: z112 :: z113 :: z114 :: z115 :: z116 :: z117 :: z118 :: z119 :: z120 :: z121 :: z122 :: z123 :: []), []⟩ W := by
  have hst := fun c i k hk h0 W => refStep_any r c i k hk h0 hr W
  have hrv : rV r = .agg #[.int .i64 r.frost, .int .i64 r.thaw, .int .i64 r.gain, .int .i64 r.full, .int .i64 r.ice, .int .i64 r.most, .int .i64 r.melt, .int .i64 r.rlow, .int .i64 r.rhigh, .int .i64 r.pull] := rfl
  rw [hrv] at hst
  have u2 := hr.u2; have m2 := hr.m2; have u1 := hr.u1; have m1 := hr.m1
  clear hrv
  conv => arg 2; simp only [hourTail3, bodyC, Try.f73, Option.getD_some, dropC, mkC]
  go_wp2_with fail
  go_loopg [12] (62) (fun gg c wr => ∃ k : Nat, (k : Int) ≤ r.full + 1 ∧ 62 - k ≤ gg ∧ c = .int .i64 k ∧ Aside (W.grownBy wr (some b4)) ∧ Aside (Wri wr b4) ∧ ∃ G, Aside (Tab wr b4 (rawF G)) ∧ Aside (Rep G (HC r tl th (mayS seen) C (Pmid k 0))))
  case atStart => exact ⟨0, by omega, by omega, rfl, grown_refl _ _, hW4, fun _ => none, hT4, HC_zero r tl th _ Hin.out⟩
  case round =>
    obtain ⟨k, hk, hg, rfl, hgw, hwr, G, hGT, hRG⟩ := hrel
    have hgz := hgw.out.size
    have qf := gcell hgw.out q3 (by omega)
    by_cases hlt : (k : Int) ≤ r.full
    · have hk0 : (0 : Int) ≤ (k : Int) := Int.natCast_nonneg _
      have hk6 : (k : Int) < 61 := by omega
      obtain ⟨Wa, hWa⟩ : ∃ Wa, Wa = wr := ⟨_, rfl⟩
      subst hWa
      go_wp2_with fail
      go_loopg [13] (32) (fun gg c wr => ∃ i : Nat, (i : Int) ≤ r.most + 1 ∧ 32 - i ≤ gg ∧ c = .int .i64 i ∧ Aside (W.grownBy wr (some b4)) ∧ Aside (Wri wr b4) ∧ ∃ G, Aside (Tab wr b4 (rawF G)) ∧ Aside (Rep G (HC r tl th (mayS seen) C (Pmid k i))))
      case atStart => exact ⟨0, by omega, by omega, rfl, hgw, hwr, G, hGT, hRG⟩
      case round =>
        clear hgw hwr hGT hRG qf hgz
        obtain ⟨i, hi, hgi, rfl, hgw, hwr, G, hGT, hRG⟩ := hrel
        have hgz := hgw.out.size
        have qm := gcell hgw.out q5 (by omega)
        by_cases hlti : (i : Int) ≤ r.most
        · have hi0 : (0 : Int) ≤ (i : Int) := Int.natCast_nonneg _
          have hi6 : (i : Int) < 31 := by omega
          have e0 := gcell hgw.out (hT1 k i 0 (by omega) (by omega) (by omega)) (by omega)
          have e1 := gcell hgw.out (hT1 k i 1 (by omega) (by omega) (by omega)) (by omega)
          rw [r0.out, Nat.add_zero] at e0
          rw [r1.out] at e1
          have hrep := HF.out ((k : Int), (i : Int))
          have hok := okO_rep HF.out (fun s n h => by have := Hbd.out s n h; omega) ((k : Int), (i : Int))
          generalize F ((k : Int), (i : Int)) = x at e0 e1 hrep hok
          rcases x with _ | ⟨a, b⟩
          · have Hrep := Lib.hid hrep
            clear hrep
            simp only [loR, hiR] at e0 e1
            go_wp2
            go_roundg (32 - (i + 1))
            case measure => omega
            case rel => exact ⟨i + 1, by omega, by omega, by go_num, grown_below hgw.out (((Below.refl _ _).alloc (Nat.le_refl _) _).mono hgz), hwr.out.below ((Below.refl _ _).alloc (Nat.le_refl _) _) (by omega), G, hGT.out.below ((Below.refl _ _).alloc (Nat.le_refl _) _) (by omega), HC_skip Hrep.out hRG.out⟩
          · have ha := hok (a, b) rfl
            have hb1 := (Hbd.out _ _ hrep.1)
            have hb2 := (Hbd.out _ _ hrep.2.1)
            have hstin := Hin.out _ _ hrep.1
            have Hrep := Lib.hid hrep
            simp only [loR, hiR] at e0 e1 ha hb1 hb2
            clear hrep hok
            have hne : ¬ a + 1 = 0 := by omega
            have hneb : (a + 1 == 0) = false := by simp [hne]
            go_wp2_with fail
            obtain ⟨p, hp⟩ : ∃ p, p = wr.heap.size := ⟨_, rfl⟩
            obtain ⟨W2, hW2⟩ : ∃ W2, W2 = wr.alloc (.cells #[.int .i64 (a + 1), .int .i64 (b + 1)] 60) := ⟨_, rfl⟩
            have n0 : W2.cell? ⟨p, 0, none⟩ = some (.int .i64 (a + 1)) := by rw [hW2, hp]; simp [go_sem]
            have n1 : W2.cell? ⟨p, 1, none⟩ = some (.int .i64 (b + 1)) := by rw [hW2, hp]; simp [go_sem]
            have hb2 : Below wr.heap.size wr W2 := by rw [hW2]; exact (by (try show Below _ _ _); repeat (first | (with_reducible refine Below.setCell ?_ (by first | omega | (simp <;> omega)) _) | (with_reducible refine Below.alloc ?_ (by first | omega | (simp <;> omega)) _) | (with_reducible refine Below.drew ?_) | (with_reducible exact Below.refl _ _) | (with_reducible refine below_call ?_ (by assumption) (by first | omega | (simp <;> omega))) | (with_reducible refine below_call ?_ (Drew.below (by assumption) _) (by first | omega | (simp <;> omega)))))
            have hz2 : p < W2.heap.size := by rw [hW2, hp]; simp
            rw [← hW2, ← hp]
            have hp5 : b5 < p := by omega
            have hgz2 : W.heap.size ≤ W2.heap.size := by omega
            have g2 : W.grownBy W2 (some b4) := grown_below hgw.out (hb2.mono hgz)
            have V2 : Wri W2 b4 := hwr.out.below hb2 (by omega)
            have T2 : Tab W2 b4 (rawF G) := hGT.out.below hb2 (by omega)
            clear hW2 hb2 hp
            have hR2 := HC_in hRG.out
            go_loopg [15] (4) (fun gg c wr => ∃ q : Nat, 1 ≤ q ∧ q ≤ 4 ∧ 4 - q ≤ gg ∧ c = .int .i64 q ∧ Aside (W2.grownBy wr (some b4)) ∧ Aside (Wri wr b4) ∧ ∃ G, Aside (Tab wr b4 (rawF G)) ∧ Aside (Rep G (HC r tl th (mayS seen) C (Pin k i q))))
            case atStart => exact ⟨1, by omega, by omega, by omega, rfl, grown_refl _ _, V2, G, T2, hR2⟩
            case round =>
              clear hgw hwr hGT hRG qm e0 e1 V2 T2 hR2 hgz
              obtain ⟨q, hq1, hq4, hgq, rfl, hgr, hwk, G, hT4, hR⟩ := hrel
              have g3 : W.grownBy wr (some b4) := grown_tr g2 hgr.out (fun r e => Or.inr (by cases e; rfl))
              have hgz := hgr.out.size
              have hcst : ((q + 1 : Nat) : Int) = (q : Int) + 1 := by omega
              by_cases hq : q ≤ 3
              · have hltq : (q : Int) ≤ 3 := by omega
                have hq0 : (0 : Int) ≤ (q : Int) := Int.natCast_nonneg _
                have hq5 : (q : Int) < 4 := by omega
                have hcq := gcell g3 (hcan.out q hq1 hq) (by omega)
                have n0' := gcell hgr.out n0 (by omega)
                have n1' := gcell hgr.out n1 (by omega)
                cases hc : canT r tl th q with
                | false =>
                  rw [hc] at hcq
                  have Hc := Lib.hid hc
                  have Hcst := Lib.hid hcst
                  clear hc hcst
                  go_wp2
                  go_roundg (4 - (q + 1))
                  case measure => omega
                  case rel =>
                    refine ⟨q + 1, by omega, by omega, by omega, by go_num, hgr, hwk, G, hT4, ?_⟩
                    rw [Hcst.out]
                    exact HC_not (fun h => by have := (mem_kinds.1 h).2; rw [Hc.out] at this; cases this) hR.out
                | true =>
                  rw [hc] at hcq
                  have a0 := gcell g3 q0 (by omega)
                  have a1 := gcell g3 q1 (by omega)
                  have a2 := gcell g3 q2 (by omega)
                  have a3 := gcell g3 q3 (by omega)
                  have a4 := gcell g3 q4 (by omega)
                  have a5 := gcell g3 q5 (by omega)
                  have a6 := gcell g3 q6 (by omega)
                  have a7 := gcell g3 q7 (by omega)
                  have a8 := gcell g3 q8 (by omega)
                  have a9 := gcell g3 q9 (by omega)
                  have hst1 := hst k i q ⟨by omega, by omega⟩ hstin
                  have hsi := stepT_in hr hstin (k := (q : Int))
                  have hmem : (q : Int) ∈ kindsT r tl th := mem_kinds.2 ⟨by omega, hc⟩
                  have hnot := fun (E : Prop) => HC_not (r := r) (tl := tl) (th := th) (may := mayS seen) (C := C) (G := G) (c := k) (i := i) (q := q)
                  have hadd := HC_add (r := r) (tl := tl) (th := th) (may := mayS seen) (C := C) (G := G) (c := k) (i := i) (q := q) Hrep.out hmem
                  rcases hsr : stepT r ((k : Int), (i : Int)) q with ⟨⟨c2, i2⟩, ran⟩
                  rw [hsr] at hst1 hsi hadd hnot
                  obtain ⟨z1, z2, z3, z4⟩ := hsi
                  simp only at z1 z2 z3 z4 hadd hnot
                  obtain ⟨c2, rfl⟩ := Int.eq_ofNat_of_zero_le z1
                  obtain ⟨i2, rfl⟩ := Int.eq_ofNat_of_zero_le z3
                  have Hadd := Lib.hid hadd
                  have Hnot := Lib.hid hnot
                  have Hcst := Lib.hid hcst
                  simp only [sV] at hst1
                  have hcl : (c2 : Int) < 61 := by omega
                  have hil : (i2 : Int) < 31 := by omega
                  clear hc hsr hadd hnot hmem hcst
                  go_wp2_with fail
                  refine (hst1 _).mono ?_
                  rintro e w3 ⟨rfl, hb3⟩
                  go_upto_region 19 with fail
                  obtain ⟨W4, hW4⟩ : ∃ W4, W4 = w3.alloc (.cells #[.int .i64 (c2 : Int), .int .i64 (i2 : Int)] 27) := ⟨_, rfl⟩
                  have s0 : W4.cell? ⟨w3.heap.size, 0, none⟩ = some (.int .i64 (c2 : Int)) := by rw [hW4]; simp [go_sem]
                  have s1 : W4.cell? ⟨w3.heap.size, 1, none⟩ = some (.int .i64 (i2 : Int)) := by rw [hW4]; simp [go_sem]
                  have hz4 : W4.heap.size = w3.heap.size + 1 := by rw [hW4]; simp
                  have hb4 : Below wr.heap.size wr W4 := by rw [hW4]; exact hb3.alloc hb3.size _
                  rw [← hW4]
                  clear hW4
                  have hz3 := hb3.size
                  have hps : w3.heap.size < W4.heap.size := by omega
                  have hpn : b4 < w3.heap.size := by omega
                  generalize w3.heap.size = p3 at s0 s1 hps hpn ⊢
                  have T4 : Tab W4 b4 (rawF G) := hT4.out.below hb4 (by omega)
                  have V4 : Wri W4 b4 := hwk.out.below hb4 (by omega)
                  have m0 := (hb4.cell (p := ⟨p, 0, none⟩) (by show p < _; omega)).trans n0'
                  have m1' := (hb4.cell (p := ⟨p, 1, none⟩) (by show p < _; omega)).trans n1'
                  clear hb3 hz3 hz4
                  have hz4 := hb4.size
                  clear n0' n1' a0 a1 a2 a3 a4 a5 a6 a7 a8 a9 hcq
                  go_cut [81] from 51 to 122 (fun v wx => v = .bool (!mayS seen ran) ∧ wx = W4)
                  case first =>
                    by_cases s1 : seen = 1
                    · subst s1
                      cases ran
                      · simp only [Bool.false_eq_true, if_false]
                        go_wp2_with fail
                        go_meet
                        exact ⟨rfl, rfl⟩
                      · simp only [if_true]
                        go_wp2_with fail
                        go_meet
                        exact ⟨rfl, rfl⟩
                    · have hs1 : (seen == 1) = false := by simp [s1]
                      by_cases s2 : seen = 2
                      · subst s2
                        cases ran
                        · simp only [Bool.false_eq_true, if_false]
                          go_wp2_with fail
                          go_meet
                          exact ⟨rfl, rfl⟩
                        · simp only [if_true]
                          go_wp2_with fail
                          go_meet
                          exact ⟨rfl, rfl⟩
                      · have hs2 : (seen == 2) = false := by simp [s2]
                        cases ran
                        · simp only [Bool.false_eq_true, if_false]
                          go_wp2_with fail
                          go_meet
                          exact ⟨by unfold mayS; rw [decide_eq_false s1, decide_eq_false s2]; rfl, rfl⟩
                        · simp only [if_true]
                          go_wp2_with fail
                          go_meet
                          exact ⟨by unfold mayS; rw [decide_eq_false s1, decide_eq_false s2]; rfl, rfl⟩
                  case rest =>
                    obtain ⟨rfl, hWX⟩ := hcut
                    subst hWX
                    cases hm : mayS seen ran with
                    | false =>
                      have Hm := Lib.hid hm
                      clear hm
                      simp only [Bool.not_false]
                      generalize (if ran = true then 1 else 0 : Int) = rho
                      go_wp2
                      go_roundg (4 - (q + 1))
                      case measure => omega
                      case rel =>
                        refine ⟨q + 1, by omega, by omega, by omega, by go_num, grown_below hgr.out (hb4.mono hgr.out.size), V4, G, T4, ?_⟩
                        rw [Hcst.out]
                        exact Hnot.out True (fun _ => Hm.out) hR.out
                    | true =>
                      have hR' := Hadd.out hm hR.out
                      have hrho : bump ran (a, b) = (a + (if ran = true then 1 else 0), b + (if ran = true then 1 else 0)) := by cases ran <;> simp [bump]
                      rw [hrho] at hR'
                      have hr01 : 0 ≤ (if ran = true then 1 else 0 : Int) ∧ (if ran = true then 1 else 0 : Int) ≤ 1 := by split <;> omega
                      generalize (if ran = true then 1 else 0 : Int) = rho at hR' hr01 ⊢
                      have HR' := Lib.hid hR'
                      clear hm hR' hrho Hnot Hadd
                      simp only [Bool.not_true]
                      go_wp2_with fail
                      go_quiet (fail)
                      generalize hq5 : World.drewN wc _ = W5
                      have hb5 := drawnT hq5
                      clear hq5
                      have T5 := T4.below hb5 (by omega)
                      have V5 := V4.below hb5 (by omega)
                      have k0 := (hb5.cell (p := ⟨p, 0, none⟩) (by show p < _; omega)).trans m0
                      have k1 := (hb5.cell (p := ⟨p, 1, none⟩) (by show p < _; omega)).trans m1'
                      have hz5 := hb5.size
                      have hb45 : Below wr.heap.size wr W5 := hb4.trans (hb5.mono hb4.size)
                      have l0 := T5 c2 i2 0 (by omega) (by omega) (by omega)
                      have l1 := T5 c2 i2 1 (by omega) (by omega) (by omega)
                      rw [rawF_0, Nat.add_zero] at l0
                      rw [rawF_1] at l1
                      have hokG := okO_rep hR.out (HC_bd Hbd.out) ((c2 : Int), (i2 : Int))
                      have hadd0 := raw_add0 G ((c2 : Int), (i2 : Int)) (a + rho, b + rho) hokG (by simp only; omega)
                      have hadd1 := raw_add1 G ((c2 : Int), (i2 : Int)) (a + rho, b + rho) hokG (by simp only; omega)
                      have hly : 0 ≤ loR (G ((c2 : Int), (i2 : Int))) ∧ loR (G ((c2 : Int), (i2 : Int))) ≤ 100001 ∧ 0 ≤ hiR (G ((c2 : Int), (i2 : Int))) ∧ hiR (G ((c2 : Int), (i2 : Int))) ≤ 100001 := by
                        cases hgc : G ((c2 : Int), (i2 : Int)) with
                        | none => simp [loR, hiR]
                        | some p => have := hokG p hgc; simp only [loR, hiR]; omega
                      have v0 := V5 (c2 * 62 + i2 * 2)
                      have v1 := V5 (c2 * 62 + i2 * 2 + 1)
                      generalize loR (G ((c2 : Int), (i2 : Int))) = y0 at l0 hadd0 hadd1 hly
                      generalize hiR (G ((c2 : Int), (i2 : Int))) = y1 at l1 hadd0 hadd1 hly
                      have wa : IntKind.i64.wrap (a + 1 + rho) = a + 1 + rho := by rw [IntKind.wrap_i64]; omega
                      have wb : IntKind.i64.wrap (b + 1 + rho) = b + 1 + rho := by rw [IntKind.wrap_i64]; omega
                      simp only at hadd0 hadd1
                      have ea : a + rho + 1 = a + 1 + rho := by omega
                      have eb : b + rho + 1 = b + 1 + rho := by omega
                      rw [ea, eb] at hadd0 hadd1
                      clear hokG ea eb
                      go_wp2_with fail
                      by_cases hy : y0 = 0
                      · have hyb : (y0 == 0) = true := by simp [hy]
                        have Hadd := Lib.hid (hadd0 (Or.inl hy))
                        clear hadd0 hadd1
                        go_quiet (fail)
                        generalize hq6 : World.drewN W5 _ = W6
                        have hb6 := drawnT hq6
                        clear hq6
                        have T6 := T5.below hb6 (by omega)
                        have V6 := V5.below hb6 (by omega)
                        replace k0 := (hb6.cell (p := ⟨p, 0, none⟩) (by show p < _; omega)).trans k0
                        replace k1 := (hb6.cell (p := ⟨p, 1, none⟩) (by show p < _; omega)).trans k1
                        replace l0 := (hb6.cell (p := ⟨b4, c2 * 62 + i2 * 2, none⟩) (by show b4 < _; omega)).trans l0
                        replace l1 := (hb6.cell (p := ⟨b4, c2 * 62 + i2 * 2 + 1, none⟩) (by show b4 < _; omega)).trans l1
                        replace v0 := V6 (c2 * 62 + i2 * 2)
                        replace v1 := V6 (c2 * 62 + i2 * 2 + 1)
                        have hz6 := hb6.size
                        have hb46 : Below wr.heap.size wr W6 := hb45.trans (hb6.mono hb45.size)
                        go_wp2_with fail

                        go_still_tail 7, (by kernel_rfl)
                        change wpList _ _ _ _ _ W6.drew
                        go_upto_region 23 with fail
                        have T7 : Tab (W6.setCell ⟨b4, c2 * 62 + i2 * 2, none⟩ (.int .i64 (a + 1 + rho))).drew b4 (setT (rawF G) ((c2 : Int), (i2 : Int)) 0 (a + 1 + rho)) := by
                          have h := T6.put c2 i2 0 (by omega) (by omega) (by omega) (a + 1 + rho)
                          rw [Nat.add_zero] at h
                          exact h
                        have g7 : wr.grownBy (W6.setCell ⟨b4, c2 * 62 + i2 * 2, none⟩ (.int .i64 (a + 1 + rho))).drew (some b4) := grown_tr (grown_tr (grown_below (grown_refl wr _) hb46) (grown_set _ _ _ _) (fun r e => Or.inr (by cases e; rfl))) (grown_drew _ none) (fun r e => by cases e)
                        have V7 : Wri (W6.setCell ⟨b4, c2 * 62 + i2 * 2, none⟩ (.int .i64 (a + 1 + rho))).drew b4 := fun o => (World.frozen?_setCells b4 [.int .i64 (a + 1 + rho)] _ _ _).trans (V6 o)
                        have j0 : (W6.setCell ⟨b4, c2 * 62 + i2 * 2, none⟩ (.int .i64 (a + 1 + rho))).drew.cell? ⟨p, 0, none⟩ = some (.int .i64 (a + 1)) := (World.cell?_setCell_other _ _ _ _ (by intro e; have := congrArg Addr.block e; simp at this; omega)).trans k0
                        have j1 : (W6.setCell ⟨b4, c2 * 62 + i2 * 2, none⟩ (.int .i64 (a + 1 + rho))).drew.cell? ⟨p, 1, none⟩ = some (.int .i64 (b + 1)) := (World.cell?_setCell_other _ _ _ _ (by intro e; have := congrArg Addr.block e; simp at this; omega)).trans k1
                        have x1' : (W6.setCell ⟨b4, c2 * 62 + i2 * 2, none⟩ (.int .i64 (a + 1 + rho))).drew.cell? ⟨b4, c2 * 62 + i2 * 2 + 1, none⟩ = some (.int .i64 y1) := (cso _ _ _ _ _ (by omega)).trans l1
                        have hz7 : (W6.setCell ⟨b4, c2 * 62 + i2 * 2, none⟩ (.int .i64 (a + 1 + rho))).drew.heap.size = W6.heap.size := by simp
                        generalize (W6.setCell ⟨b4, c2 * 62 + i2 * 2, none⟩ (.int .i64 (a + 1 + rho))).drew = W7 at T7 g7 V7 j0 j1 x1' hz7 ⊢
                        clear l0 l1 v0 v1 k0 k1 T6 V6 T5 V5
                        have v1 := V7 (c2 * 62 + i2 * 2 + 1)

                        go_still_tail 12, (by kernel_rfl)
                        change wpList _ _ _ _ _ W7.drew
                        have hmx : Aside (max y1 (b + 1 + rho) ≤ 200000) := by unfold Aside; omega
                        go_wp2
                        go_roundg (4 - (q + 1))
                        case measure => omega
                        case rel =>
                          have T8 : Tab (W7.setCell ⟨b4, c2 * 62 + i2 * 2 + 1, none⟩ (.int .i64 (max y1 (b + 1 + rho)))).drew b4 (rawF (addF G ((c2 : Int), (i2 : Int)) (some (a + rho, b + rho)))) := by
                            have h := T7.put c2 i2 1 (by omega) (by omega) (by omega) (max y1 (b + 1 + rho))
                            rw [Hadd.out] at h
                            exact h
                          refine ⟨q + 1, by omega, by omega, by omega, by go_num, ?_, ?_, _, T8, ?_⟩
                          · exact grown_tr (grown_tr (grown_tr hgr.out g7 (fun r e => Or.inr (by cases e; rfl))) (grown_set _ _ _ _) (fun r e => Or.inr (by cases e; rfl))) (grown_drew _ none) (fun r e => by cases e)
                          · exact fun o => (World.frozen?_setCells b4 [.int .i64 (max y1 (b + 1 + rho))] _ _ _).trans (V7 o)
                          · rw [Hcst.out]; exact HR'.out
                      · have hyb : (y0 == 0) = false := by simp [hy]
                        by_cases hl : a + 1 + rho < y0
                        · skip
                          have Hadd := Lib.hid (hadd0 (Or.inr hl))
                          clear hadd0 hadd1
                          go_quiet (fail)
                          generalize hq6 : World.drewN W5 _ = W6
                          have hb6 := drawnT hq6
                          clear hq6
                          have T6 := T5.below hb6 (by omega)
                          have V6 := V5.below hb6 (by omega)
                          replace k0 := (hb6.cell (p := ⟨p, 0, none⟩) (by show p < _; omega)).trans k0
                          replace k1 := (hb6.cell (p := ⟨p, 1, none⟩) (by show p < _; omega)).trans k1
                          replace l0 := (hb6.cell (p := ⟨b4, c2 * 62 + i2 * 2, none⟩) (by show b4 < _; omega)).trans l0
                          replace l1 := (hb6.cell (p := ⟨b4, c2 * 62 + i2 * 2 + 1, none⟩) (by show b4 < _; omega)).trans l1
                          replace v0 := V6 (c2 * 62 + i2 * 2)
                          replace v1 := V6 (c2 * 62 + i2 * 2 + 1)
                          have hz6 := hb6.size
                          have hb46 : Below wr.heap.size wr W6 := hb45.trans (hb6.mono hb45.size)
                          go_wp2_with fail

                          go_still_tail 7, (by kernel_rfl)
                          change wpList _ _ _ _ _ W6.drew
                          go_upto_region 23 with fail
                          have T7 : Tab (W6.setCell ⟨b4, c2 * 62 + i2 * 2, none⟩ (.int .i64 (a + 1 + rho))).drew b4 (setT (rawF G) ((c2 : Int), (i2 : Int)) 0 (a + 1 + rho)) := by
                            have h := T6.put c2 i2 0 (by omega) (by omega) (by omega) (a + 1 + rho)
                            rw [Nat.add_zero] at h
                            exact h
                          have g7 : wr.grownBy (W6.setCell ⟨b4, c2 * 62 + i2 * 2, none⟩ (.int .i64 (a + 1 + rho))).drew (some b4) := grown_tr (grown_tr (grown_below (grown_refl wr _) hb46) (grown_set _ _ _ _) (fun r e => Or.inr (by cases e; rfl))) (grown_drew _ none) (fun r e => by cases e)
                          have V7 : Wri (W6.setCell ⟨b4, c2 * 62 + i2 * 2, none⟩ (.int .i64 (a + 1 + rho))).drew b4 := fun o => (World.frozen?_setCells b4 [.int .i64 (a + 1 + rho)] _ _ _).trans (V6 o)
                          have j0 : (W6.setCell ⟨b4, c2 * 62 + i2 * 2, none⟩ (.int .i64 (a + 1 + rho))).drew.cell? ⟨p, 0, none⟩ = some (.int .i64 (a + 1)) := (World.cell?_setCell_other _ _ _ _ (by intro e; have := congrArg Addr.block e; simp at this; omega)).trans k0
                          have j1 : (W6.setCell ⟨b4, c2 * 62 + i2 * 2, none⟩ (.int .i64 (a + 1 + rho))).drew.cell? ⟨p, 1, none⟩ = some (.int .i64 (b + 1)) := (World.cell?_setCell_other _ _ _ _ (by intro e; have := congrArg Addr.block e; simp at this; omega)).trans k1
                          have x1' : (W6.setCell ⟨b4, c2 * 62 + i2 * 2, none⟩ (.int .i64 (a + 1 + rho))).drew.cell? ⟨b4, c2 * 62 + i2 * 2 + 1, none⟩ = some (.int .i64 y1) := (cso _ _ _ _ _ (by omega)).trans l1
                          have hz7 : (W6.setCell ⟨b4, c2 * 62 + i2 * 2, none⟩ (.int .i64 (a + 1 + rho))).drew.heap.size = W6.heap.size := by simp
                          generalize (W6.setCell ⟨b4, c2 * 62 + i2 * 2, none⟩ (.int .i64 (a + 1 + rho))).drew = W7 at T7 g7 V7 j0 j1 x1' hz7 ⊢
                          clear l0 l1 v0 v1 k0 k1 T6 V6 T5 V5
                          have v1 := V7 (c2 * 62 + i2 * 2 + 1)

                          go_still_tail 12, (by kernel_rfl)
                          change wpList _ _ _ _ _ W7.drew
                          have hmx : Aside (max y1 (b + 1 + rho) ≤ 200000) := by unfold Aside; omega
                          go_wp2
                          go_roundg (4 - (q + 1))
                          case measure => omega
                          case rel =>
                            have T8 : Tab (W7.setCell ⟨b4, c2 * 62 + i2 * 2 + 1, none⟩ (.int .i64 (max y1 (b + 1 + rho)))).drew b4 (rawF (addF G ((c2 : Int), (i2 : Int)) (some (a + rho, b + rho)))) := by
                              have h := T7.put c2 i2 1 (by omega) (by omega) (by omega) (max y1 (b + 1 + rho))
                              rw [Hadd.out] at h
                              exact h
                            refine ⟨q + 1, by omega, by omega, by omega, by go_num, ?_, ?_, _, T8, ?_⟩
                            · exact grown_tr (grown_tr (grown_tr hgr.out g7 (fun r e => Or.inr (by cases e; rfl))) (grown_set _ _ _ _) (fun r e => Or.inr (by cases e; rfl))) (grown_drew _ none) (fun r e => by cases e)
                            · exact fun o => (World.frozen?_setCells b4 [.int .i64 (max y1 (b + 1 + rho))] _ _ _).trans (V7 o)
                            · rw [Hcst.out]; exact HR'.out
                        · skip
                          have Hadd := Lib.hid (hadd1 (by omega))
                          clear hadd0 hadd1
                          go_quiet (fail)
                          generalize hq6 : World.drewN W5 _ = W6
                          have hb6 := drawnT hq6
                          clear hq6
                          have T6 := T5.below hb6 (by omega)
                          have V6 := V5.below hb6 (by omega)
                          replace k0 := (hb6.cell (p := ⟨p, 0, none⟩) (by show p < _; omega)).trans k0
                          replace k1 := (hb6.cell (p := ⟨p, 1, none⟩) (by show p < _; omega)).trans k1
                          replace l0 := (hb6.cell (p := ⟨b4, c2 * 62 + i2 * 2, none⟩) (by show b4 < _; omega)).trans l0
                          replace l1 := (hb6.cell (p := ⟨b4, c2 * 62 + i2 * 2 + 1, none⟩) (by show b4 < _; omega)).trans l1
                          replace v0 := V6 (c2 * 62 + i2 * 2)
                          replace v1 := V6 (c2 * 62 + i2 * 2 + 1)
                          have hz6 := hb6.size
                          have hb46 : Below wr.heap.size wr W6 := hb45.trans (hb6.mono hb45.size)
                          go_wp2_with fail

                          have g7 : wr.grownBy W6 (some b4) := grown_below (grown_refl wr _) hb46
                          obtain ⟨W7, hW7⟩ : ∃ W7, W7 = W6 := ⟨_, rfl⟩
                          subst hW7
                          have T7 := T6
                          have V7 := V6
                          have j0 := k0
                          have j1 := k1
                          have x1' := l1
                          clear k0 k1 l0 l1

                          go_still_tail 12, (by kernel_rfl)
                          change wpList _ _ _ _ _ W7.drew
                          have hmx : Aside (max y1 (b + 1 + rho) ≤ 200000) := by unfold Aside; omega
                          go_wp2
                          go_roundg (4 - (q + 1))
                          case measure => omega
                          case rel =>
                            have T8 : Tab (W7.setCell ⟨b4, c2 * 62 + i2 * 2 + 1, none⟩ (.int .i64 (max y1 (b + 1 + rho)))).drew b4 (rawF (addF G ((c2 : Int), (i2 : Int)) (some (a + rho, b + rho)))) := by
                              have h := T7.put c2 i2 1 (by omega) (by omega) (by omega) (max y1 (b + 1 + rho))
                              rw [Hadd.out] at h
                              exact h
                            refine ⟨q + 1, by omega, by omega, by omega, by go_num, ?_, ?_, _, T8, ?_⟩
                            · exact grown_tr (grown_tr (grown_tr hgr.out g7 (fun r e => Or.inr (by cases e; rfl))) (grown_set _ _ _ _) (fun r e => Or.inr (by cases e; rfl))) (grown_drew _ none) (fun r e => by cases e)
                            · exact fun o => (World.frozen?_setCells b4 [.int .i64 (max y1 (b + 1 + rho))] _ _ _).trans (V7 o)
                            · rw [Hcst.out]; exact HR'.out
              · have hltq : ¬ (q : Int) ≤ 3 := by omega
                obtain rfl : q = 4 := by omega
                go_wp2
                go_roundg (32 - (i + 1))
                case measure => omega
                case rel => exact ⟨i + 1, by omega, by omega, by go_num, g3, hwk, G, hT4, by have := HC_out hR.out; rw [show ((i : Int) + 1) = ((i + 1 : Nat) : Int) by omega] at this; exact this⟩
        · have hlti' : ¬ (i : Int) ≤ r.most := hlti
          go_wp2
          go_roundg (62 - (k + 1))
          case measure => omega
          case rel => exact ⟨k + 1, by omega, by omega, by go_num, hgw, hwr, G, hGT, by have := HC_row Hin.out (by omega) hRG.out; rw [show ((k : Int) + 1) = ((k + 1 : Nat) : Int) by omega] at this; exact this⟩
    · have hlt' : ¬ (k : Int) ≤ r.full := hlt
      have hR9 := Lib.hid (HC_full Hin.out (by omega) hRG.out)
      have T3 := hT3.kept hgw.out (by omega)
      have V3 := hW3.kept hgw.out (by omega) (by omega)
      have hld2 := load_tab (putT_tab T3 V3 (rawF G))
      have hBB : Below w.heap.size w (putT wr b3 (rawF G)) := (hBW.grown hgw.out (by omega) (fun k e => by cases e; omega)).grown (putT_grown wr _ _) (by omega) (fun k e => by cases e; omega)
      go_wp2_with (first | refine wpList_load_tab rfl _ rfl _ rfl (rawF G) hGT.out ?_ | refine wpList_store_tab rfl _ _ rfl _ (rawF G) rfl rfl _ T3 V3 ?_)
      refine bodyPost_ret (v := .agg (tabA (rawF G))) ?_ rfl ⟨G, rfl, hR9.out, hBB⟩
      simp [results, Try.results73, asAddr, Act.put, hld2]

end Go.Proofs.Ytlkecgjpmnganaa
