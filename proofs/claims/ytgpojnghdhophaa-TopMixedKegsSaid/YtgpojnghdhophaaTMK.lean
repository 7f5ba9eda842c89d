/- spiletop.TopMixedKegs: the walk. -/
import Derived.Test.YtgpojnghdhophaaTMKdef
import Derived.Deep.RegionHeld3
import Derived.Deep.AppendLies
import Derived.Laws.OwnMore
import Derived.OwnWalk
set_option linter.unusedSimpArgs false
set_option linter.unusedVariables false
namespace Go.Proofs.Ytgpojnghdhophaa
open Go.RowKit Go.Shelf

def kegCells (k : K) : List Value := [.int .i64 k.wa, .int .i64 k.su, .int .i64 k.li, .int .i64 k.fl]
def rCells (r : R) : List Value := [.int .i64 r.lo, .int .i64 r.hi]

theorem infoKeg : (Try.prog.info? 37).map (fun i => (i.zero, i.size, i.bytes)) = some (some (.agg #[.int .i64 0, .int .i64 0, .int .i64 0, .int .i64 0]), 4, 32) := by kernel_rfl
theorem infoSap : (Try.prog.info? 30).map (fun i => (i.zero, i.size, i.bytes)) = some (some (.agg #[.int .i64 0, .int .i64 0]), 2, 16) := by kernel_rfl
theorem infoRng : (Try.prog.info? 32).map (fun i => (i.zero, i.size, i.bytes)) = some (some (.agg #[.int .i64 0, .int .i64 0]), 2, 16) := by kernel_rfl

abbrev rowV (g n c : Nat) : Value := .slice (some ⟨g, 0, none⟩) n c
theorem keg_eq (x y z : Int) (h0 : 0 ≤ z) (h1 : z ≤ 65535) : kegCells ⟨x, 1 + y, (IntKind.i64.wrap z).tmod 1001, IntKind.i64.wrap (1 + (IntKind.i64.wrap z).tmod 9)⟩ = kegCells (T3.keg ⟨x, y, z⟩) := by
  have e : IntKind.i64.wrap z = z := by rw [IntKind.wrap_i64]; omega
  have e2 : IntKind.i64.wrap (1 + z % 9) = 1 + z % 9 := by rw [IntKind.wrap_i64]; omega
  rw [e, Int.tmod_eq_emod_of_nonneg h0, Int.tmod_eq_emod_of_nonneg h0, e2]
  rfl

theorem fm_snoc (f : T3 → List Value) (L : List T3) (k : Nat) (hk : k < L.length) (T : T3) (hT : L[k]?.getD T3.d = T) : (L.take (k + 1)).flatMap f = (L.take k).flatMap f ++ f T := by
  rw [List.take_succ_eq_append_getElem hk, List.flatMap_append]
  rw [List.getElem?_eq_getElem hk] at hT
  simp only [Option.getD_some] at hT
  simp [hT]

structure LawI (w : World) (L : List T3) (k g5 c5 g6 c6 g7 c7 : Nat) (wr : World) : Prop where
  below : Below w.heap.size w wr
  o5 : wr.ownsRow w.heap.size 37 4 (rowV g5 k c5) k ((L.take k).flatMap fun t => kegCells t.keg)
  o6 : wr.ownsRow w.heap.size 30 2 (rowV g6 k c6) k ((L.take k).flatMap fun t => rCells t.sap)
  o7 : wr.ownsRow w.heap.size 32 2 (rowV g7 k c7) k ((L.take k).flatMap fun t => rCells (brixV t.sap))

theorem own_below {w w' : World} {base B : Nat} {e : TypeId} {size : Nat} {v : Value} {n : Nat} {xs : List Value} (h : w.ownsRow base e size v n xs) (hb : Below B w w') (hB : w.heap.size ≤ B) : w'.ownsRow base e size v n xs :=
  h.kept (row := none) ⟨hb.os, hb.tape, hb.output, hb.size, fun k hk _ => hb.block k (Nat.lt_of_lt_of_le hk hB)⟩ (by cases v.ownBlock <;> simp)

theorem own_ne {w : World} {base base' : Nat} {e e' : TypeId} {size size' g g' n n' m m' c c' : Nat} {xs xs' : List Value} (h : w.ownsRow base e size (rowV g n c) m xs) (h' : w.ownsRow base' e' size' (rowV g' n' c') m' xs') (hne : e ≠ e') : g ≠ g' := by
  rintro rfl
  rcases h.2 with ⟨hc, _⟩ | ⟨g1, cap, cur, hv, _, hh, _⟩
  · simp [rowV] at hc
  · rcases h'.2 with ⟨hc, _⟩ | ⟨g2, cap2, cur2, hv2, _, hh2, _⟩
    · simp [rowV] at hc
    · simp only [rowV, Value.slice.injEq, Option.some.injEq, Addr.mk.injEq, and_true, true_and] at hv hv2
      obtain ⟨rfl, _⟩ := hv
      obtain ⟨rfl, _⟩ := hv2
      rw [hh] at hh2
      injection hh2 with hh2
      injection hh2 with _ ht
      exact hne ht

theorem own_cap {w : World} {base : Nat} {e : TypeId} {size g n m c : Nat} {xs : List Value} (h : w.ownsRow base e size (rowV g n c) m xs) : m ≤ c ∧ c ≤ maxLen := by
  rcases h.2 with ⟨hc, _⟩ | ⟨g1, cap, cur, hv, _, _, hnc, hcm, _⟩
  · simp [rowV] at hc
  · simp only [rowV, Value.slice.injEq] at hv
    obtain ⟨_, _, rfl⟩ := hv
    exact ⟨hnc, hcm⟩

theorem news2 {W : World} {g : Nat} {a b : Value} (h0 : W.cell? ⟨g, 0, none⟩ = some a) (h1 : W.cell? ⟨g, 1, none⟩ = some b) : ∀ j u, [a, b][j]? = some u → W.cell? ((⟨g, 0, none⟩ : Addr).add j) = some u := by
  intro j u hu
  match j, hu with
  | 0, hu => simpa [Addr.add, h0] using hu
  | 1, hu => simpa [Addr.add, h1] using hu

theorem flat_at {α : Type} (k : Nat) (f : α → List Value) (hf : ∀ x, (f x).length = k) (d : α) (xs : List α) (j i : Nat) (hj : j < xs.length) (hi : i < k) : (xs.flatMap f)[j * k + i]? = (f (xs[j]?.getD d))[i]? := by
  induction xs generalizing j with
  | nil => simp at hj
  | cons x l ih =>
    rw [List.flatMap_cons]
    cases j with
    | zero => rw [List.getElem?_append_left (by rw [hf]; omega)]; simp
    | succ j =>
      have e : (j + 1) * k + i = k + (j * k + i) := by rw [Nat.add_mul]; omega
      rw [e, List.getElem?_append_right (by rw [hf]; omega), hf, Nat.add_sub_cancel_left]
      rw [ih j (by simpa using hj)]
      simp

theorem flat_len {α : Type} (k : Nat) (f : α → List Value) (hf : ∀ x, (f x).length = k) (xs : List α) : (xs.flatMap f).length = xs.length * k := by
  induction xs with
  | nil => simp
  | cons x l ih => rw [List.flatMap_cons, List.length_append, ih, hf, List.length_cons, Nat.add_mul]; omega

theorem elems_own {α : Type} {k : Nat} {enc : α → Nat → Value} {d : α} (f : α → List Value) (hf : ∀ x, (f x).length = k) (he : ∀ x i, i < k → (f x)[i]? = some (enc x i))
    {w : World} {base n g c : Nat} {e : TypeId} {xs : List α} (h : w.ownsRow base e k (rowV g n c) n (xs.flatMap f)) (hn : xs.length = n) : Elems k enc d w 0 (some ⟨g, 0, none⟩) xs := by
  intro h0
  refine ⟨g, 0, rfl, Nat.zero_le _, (h.lt g rfl).2, fun j i hj hi => ?_⟩
  have hlt : j * k + i < n * k := by
    have : (j + 1) * k ≤ n * k := Nat.mul_le_mul_right k (by omega)
    rw [Nat.add_mul] at this
    omega
  rw [Nat.zero_add, h.cellAt (j * k + i) hlt, flat_at k f hf d xs j i hj hi, he _ _ hi]

theorem kegs_own {w : World} {base n g c : Nat} {e : TypeId} {L : List T3} (h : w.ownsRow base e 4 (rowV g n c) n (L.flatMap fun t => kegCells t.keg)) (hn : L.length = n) : Kegs w 0 (some ⟨g, 0, none⟩) (L.map T3.keg) := by
  refine elems_own (e := e) (base := base) (n := n) (c := c) kegCells (fun _ => rfl) (fun x i hi => ?_) (by rw [List.flatMap_map]; exact h) (by simpa using hn)
  have : i = 0 ∨ i = 1 ∨ i = 2 ∨ i = 3 := by omega
  rcases this with rfl | rfl | rfl | rfl <;> rfl

theorem rs_own {w : World} {base n g c : Nat} {e : TypeId} {L : List T3} (q : T3 → R) (h : w.ownsRow base e 2 (rowV g n c) n (L.flatMap fun t => rCells (q t))) (hn : L.length = n) : Ranges w 0 (some ⟨g, 0, none⟩) (L.map q) := by
  refine elems_own (e := e) (base := base) (n := n) (c := c) rCells (fun _ => rfl) (fun x i hi => ?_) (by rw [List.flatMap_map]; exact h) (by simpa using hn)
  have : i = 0 ∨ i = 1 := by omega
  rcases this with rfl | rfl <;> rfl

theorem one_kegs (L : List T3) : ∀ u ∈ (L.flatMap fun t => kegCells t.keg), u.oneCell' = true := by
  intro u hu
  obtain ⟨t, _, hu⟩ := List.mem_flatMap.1 hu
  simp only [kegCells, List.mem_cons, List.not_mem_nil, or_false] at hu
  rcases hu with rfl | rfl | rfl | rfl <;> rfl

theorem kegs_one (w : World) (k : K) (t : TypeId) : Kegs (w.alloc (.cells #[.int .i64 k.wa, .int .i64 k.su, .int .i64 k.li, .int .i64 k.fl] t)) 0 (some ⟨w.heap.size, 0, none⟩) [k] := by
  intro _
  refine ⟨w.heap.size, 0, rfl, Nat.zero_le _, by simp, fun j i hj hi => ?_⟩
  simp only [List.length_cons, List.length_nil] at hj
  obtain rfl : j = 0 := by omega
  have hi' : i = 0 ∨ i = 1 ∨ i = 2 ∨ i = 3 := by omega
  rcases hi' with rfl | rfl | rfl | rfl <;> simp [go_sem, K.cell]

theorem kegs_two {w : World} {base g c n : Nat} {e : TypeId} (a b : K) (h : w.ownsRow base e 4 (rowV g n c) n (kegCells a ++ kegCells b)) (hn : n = 2) : Kegs w 0 (some ⟨g, 0, none⟩) [a, b] := by
  subst hn
  refine elems_own (e := e) (base := base) (n := 2) (c := c) kegCells (fun _ => rfl) (fun x i hi => ?_) (by simpa using h) rfl
  have : i = 0 ∨ i = 1 ∨ i = 2 ∨ i = 3 := by omega
  rcases this with rfl | rfl | rfl | rfl <;> rfl

theorem kegs_app (w : World) (a0 a1 a2 a3 b0 b1 b2 b3 : Int) (zs : Array Value) (t : TypeId) (g : Nat) (hg : w.heap.size = g) : Kegs (w.alloc (.cells (#[.int .i64 a0, .int .i64 a1, .int .i64 a2, .int .i64 a3] ++ (#[.int .i64 b0, .int .i64 b1, .int .i64 b2, .int .i64 b3] ++ zs)) t)).drew 0 (some ⟨g, 0, none⟩) [⟨a0, a1, a2, a3⟩, ⟨b0, b1, b2, b3⟩] := by
  subst hg
  intro _
  refine ⟨w.heap.size, 0, rfl, Nat.zero_le _, by simp, fun j i hj hi => ?_⟩
  simp only [List.length_cons, List.length_nil] at hj
  have hj' : j = 0 ∨ j = 1 := by omega
  have hi' : i = 0 ∨ i = 1 ∨ i = 2 ∨ i = 3 := by omega
  rcases hj' with rfl | rfl <;> rcases hi' with rfl | rfl | rfl | rfl <;> simp [go_sem, K.cell, Array.getElem?_append]

/-- what stands behind the draw -/
structure CutI (w : World) (a p q : Nat) (W S lt fl d0 d1 l0 l1 : Int) (wx : World) : Prop where
  below : Below w.heap.size w wx
  sa : a < wx.heap.size
  sp : p < wx.heap.size
  sq : q < wx.heap.size
  a0 : wx.cell? ⟨a, 0, none⟩ = some (.int .i64 W)
  a1 : wx.cell? ⟨a, 1, none⟩ = some (.int .i64 S)
  a2 : wx.cell? ⟨a, 2, none⟩ = some (.int .i64 lt)
  a3 : wx.cell? ⟨a, 3, none⟩ = some (.int .i64 fl)
  p0 : wx.cell? ⟨p, 0, none⟩ = some (.int .i64 d0)
  p1 : wx.cell? ⟨p, 1, none⟩ = some (.int .i64 d1)
  q0 : wx.cell? ⟨q, 0, none⟩ = some (.int .i64 l0)
  q1 : wx.cell? ⟨q, 1, none⟩ = some (.int .i64 l1)

theorem part_eq (part M : Int) (hp : 0 ≤ part ∧ part ≤ 65535) (hM : 1 ≤ M ∧ M ≤ 2000000) : IntKind.i64.wrap (1 + (IntKind.i64.wrap part).tmod (IntKind.i64.wrap M)) = 1 + part % M := by
  have e1 : IntKind.i64.wrap part = part := by rw [IntKind.wrap_i64]; omega
  have e2 : IntKind.i64.wrap M = M := by rw [IntKind.wrap_i64]; omega
  rw [e1, e2, Int.tmod_eq_emod_of_nonneg hp.1, IntKind.wrap_i64]
  have h1 := Int.emod_nonneg part (show M ≠ 0 by omega)
  have h2 := Int.emod_lt_of_pos part (show 0 < M by omega)
  omega

theorem part_eq3 (part M : Int) (hp : 0 ≤ part ∧ part ≤ 65535) : 1 + part.tmod M = 1 + part % M := by rw [Int.tmod_eq_emod_of_nonneg hp.1]
theorem part_eq4 (part M : Int) (hp : 0 ≤ part ∧ part ≤ 65535) (hM : 1 ≤ M ∧ M ≤ 2000000) : IntKind.i64.wrap (1 + part % M) = 1 + part % M := by
  rw [IntKind.wrap_i64]
  have h1 := Int.emod_nonneg part (show M ≠ 0 by omega)
  have h2 := Int.emod_lt_of_pos part (show 0 < M by omega)
  omega
theorem part_eq2 (part M : Int) (hp : 0 ≤ part ∧ part ≤ 65535) (hM : 1 ≤ M ∧ M ≤ 2000000) : IntKind.i64.wrap (1 + part.tmod M) = 1 + part % M := by
  rw [Int.tmod_eq_emod_of_nonneg hp.1, part_eq4 part M hp hM]

set_option maxRecDepth 100000 in
set_option maxHeartbeats 4000000 in
theorem law_walk (lo : Nat) (A : Option Addr) (n c : Nat) (L : List T3) (part : Int) (w : World) (hx : Trips w lo A L) (hn : Aside (L.length = n)) (hl : n ≤ maxLen)
    (hL : ∀ j, j < n → (L[j]?.getD T3.d).ok) (hbx : ∀ s : R, 0 ≤ s.lo → 1 ≤ s.hi → s.lo ≤ 1000000000 → s.hi ≤ 1000000000 → (brixS s).2 = 0) (hp : 0 ≤ part ∧ part ≤ 65535)
    (hM : 1 ≤ L.length → L.length ≤ 12 → ∃ W S lt fl il ih hl hh d0 d1 l0 l1, TmkM L part W S lt fl il ih hl hh d0 d1 l0 l1) :
    Calls Try.prog 3 #[.slice A n c, .int .u16 part] w fun e w' => e = .returned (.bool true) ∧ Below w.heap.size w w' := by
  have hK := fun W => knownKegs_any W
  by_cases h1 : (n : Int) < 1
  ·
    go_enter Try.func3, Try.ntmps3
    go_wp2_with fail
    refine (hK _).mono ?_
    rintro e w1 ⟨rfl, hb1⟩
    have hz1 := hb1.size
    try simp only [World.size_alloc, World.size_setCell] at hz1
    go_wp2
    go_ret
    exact ⟨rfl, (by (try show Below _ _ _); repeat (first | (with_reducible refine Below.setCell ?_ (by first | omega | (simp <;> omega)) _) | (with_reducible refine Below.alloc ?_ (by first | omega | (simp <;> omega)) _) | (with_reducible refine Below.drew ?_) | (with_reducible exact Below.refl _ _) | (with_reducible refine below_call ?_ (by assumption) (by first | omega | (simp <;> omega))) | (with_reducible refine below_call ?_ (Drew.below (by assumption) _) (by first | omega | (simp <;> omega)))))⟩
  by_cases h12 : (12 : Int) < n
  ·
    go_enter Try.func3, Try.ntmps3
    go_wp2_with fail
    refine (hK _).mono ?_
    rintro e w1 ⟨rfl, hb1⟩
    have hz1 := hb1.size
    try simp only [World.size_alloc, World.size_setCell] at hz1
    go_wp2
    go_ret
    exact ⟨rfl, (by (try show Below _ _ _); repeat (first | (with_reducible refine Below.setCell ?_ (by first | omega | (simp <;> omega)) _) | (with_reducible refine Below.alloc ?_ (by first | omega | (simp <;> omega)) _) | (with_reducible refine Below.drew ?_) | (with_reducible exact Below.refl _ _) | (with_reducible refine below_call ?_ (by assumption) (by first | omega | (simp <;> omega))) | (with_reducible refine below_call ?_ (Drew.below (by assumption) _) (by first | omega | (simp <;> omega)))))⟩
  have HL := Lib.hid hL
  have HB := Lib.hid hbx
  clear hL hbx
  obtain ⟨i5, hi5, hz5, hs5, hb5⟩ := info_parts infoKeg
  obtain ⟨i6, hi6, hz6, hs6, hb6⟩ := info_parts infoSap
  obtain ⟨i7, hi7, hz7, hs7, hb7⟩ := info_parts infoRng
  go_enter Try.func3, Try.ntmps3
  go_wp2
  go_loopg [5, 6, 7, 8] (n) (fun gg v5 v6 v7 i wr => ∃ k g5 c5 g6 c6 g7 c7 : Nat, k ≤ n ∧ n - k ≤ gg ∧ i = .int .i64 k ∧ v5 = rowV g5 k c5 ∧ v6 = rowV g6 k c6 ∧ v7 = rowV g7 k c7 ∧ Aside (LawI w L k g5 c5 g6 c6 g7 c7 wr))
  case atStart =>
    refine ⟨0, _, _, _, _, _, _, Nat.zero_le _, Nat.le_refl _, rfl, rfl, rfl, rfl, ?_⟩
    have ha := World.ownsRow_lit (base := w.heap.size) (e := 37) (size := 4) w #[] 0 (Nat.le_refl _) (by decide) rfl
    have hb := World.ownsRow_lit (base := w.heap.size) (e := 30) (size := 2) (w.alloc (.cells #[] 37)) #[] 0 (by simp) (by decide) rfl
    have hc := World.ownsRow_lit (base := w.heap.size) (e := 32) (size := 2) ((w.alloc (.cells #[] 37)).alloc (.cells #[] 30)) #[] 0 (by simp; omega) (by decide) rfl
    exact { below := (by (try show Below _ _ _); repeat (first | (with_reducible refine Below.setCell ?_ (by first | omega | (simp <;> omega)) _) | (with_reducible refine Below.alloc ?_ (by first | omega | (simp <;> omega)) _) | (with_reducible refine Below.drew ?_) | (with_reducible exact Below.refl _ _) | (with_reducible refine below_call ?_ (by assumption) (by first | omega | (simp <;> omega))) | (with_reducible refine below_call ?_ (Drew.below (by assumption) _) (by first | omega | (simp <;> omega))))), o5 := (ha.alloc _).alloc _, o6 := by simpa using hb.alloc _, o7 := by simpa using hc }
  case round =>
    obtain ⟨k, g5, c5, g6, c6, g7, c7, hk, hg, rfl, rfl, rfl, rfl, I⟩ := hrel
    obtain ⟨hb0, o5, o6, o7⟩ := I.out
    have hzb := hb0.size
    have n5 := o5.lt g5 rfl
    have n6 := o6.lt g6 rfl
    have n7 := o7.lt g7 rfl
    have n56 := own_ne o5 o6 (by decide)
    have n57 := own_ne o5 o7 (by decide)
    clear I
    by_cases hlt : k < n
    · obtain ⟨b, o, rfl, _, hlb, hc⟩ := hx (by have := hn.out; omega)
      have hck0 := (hb0.cell (p := ⟨b, o + k * 3 + 0, none⟩) hlb).trans (hc k 0 (by have := hn.out; omega) (by omega))
      have hck1 := (hb0.cell (p := ⟨b, o + k * 3 + 1, none⟩) hlb).trans (hc k 1 (by have := hn.out; omega) (by omega))
      have hck2 := (hb0.cell (p := ⟨b, o + k * 3 + 2, none⟩) hlb).trans (hc k 2 (by have := hn.out; omega) (by omega))
      have hltz : (k : Int) < (n : Int) := by omega
      have hok := HL.out k hlt
      have hbw : b < wr.heap.size := by have := hb0.size; omega
      clear hc hx
      generalize hT : L[k]?.getD T3.d = T at hck0 hck1 hck2 hok
      obtain ⟨x, y, z⟩ := T
      simp only [T3.cell, Nat.add_zero, if_true, Nat.one_ne_zero, if_false, Nat.reduceEqDiff] at hck0 hck1 hck2
      obtain ⟨⟨hx0, hx1⟩, ⟨hy0, hy1⟩, ⟨hz0, hz1⟩⟩ := hok
      simp only at hx0 hx1 hy0 hy1 hz0 hz1
      have HT := Lib.hid hT
      clear hT
      have hkeg := Lib.hid (keg_eq x y z hz0 hz1)
      have hbr := fun W => brix_any x (1 + y) W
      have hb2 : (brixS ⟨x, 1 + y⟩).2 = 0 := HB.out ⟨x, 1 + y⟩ hx0 (by simp only; omega) (by simp only; omega) (by simp only; omega)
      have hbv : (brixS ⟨x, 1 + y⟩).1 = brixV ⟨x, 1 + y⟩ := rfl
      unfold RE at hbr
      rw [hb2, hbv] at hbr
      clear hb2 hbv
      generalize hB : brixV ⟨x, 1 + y⟩ = B at hbr
      obtain ⟨bl, bh⟩ := B
      simp only at hbr
      have HBV := Lib.hid hB
      clear hB
      have hi0 : (0 : Int) ≤ (k : Int) := Int.natCast_nonneg _
      have hkn : (k : Int) < (n : Int) := by omega
      go_wp2_with fail
      go_region
      go_wp2_with fail
      refine (hbr _).mono ?_
      rintro e w1 ⟨rfl, hb1⟩
      have hz1 := hb1.size
      try simp only [World.size_alloc, World.size_setCell] at hz1
      simp only [World.size_drew, World.size_alloc] at hz1
      have hc1_s := fun o => hb1.cell (p := ⟨wr.heap.size, o, none⟩) (by show wr.heap.size < _; first | omega | (simp only [World.size_alloc, World.size_setCell, World.size_drew]; omega))
      have hf1_s := fun o => hb1.frozen (p := ⟨wr.heap.size, o, none⟩) (by show wr.heap.size < _; first | omega | (simp only [World.size_alloc, World.size_setCell, World.size_drew]; omega))
      have hz1_s : wr.heap.size < w1.heap.size := by omega
      have hl1 := hb1.cell (p := ⟨b, o + k * 3 + 2, none⟩) (by show b < _; simp; omega)
      have hl1' : w1.cell? ⟨b, o + k * 3 + 2, none⟩ = some (.int .u16 z) := by rw [hl1]; simp [go_sem, hck2, hbw]
      have e0 : w1.cell? ⟨wr.heap.size, 0, none⟩ = some (.int .i64 x) := by simp [go_sem, hc1_s]
      have e1 : w1.cell? ⟨wr.heap.size, 1, none⟩ = some (.int .i64 (1 + y)) := by simp [go_sem, hc1_s]
      have p5 := own_below ((o5.alloc _).drew) hb1 (Nat.le_refl _)
      have p6 := own_below ((o6.alloc _).drew) hb1 (Nat.le_refl _)
      have p7 := own_below ((o7.alloc _).drew) hb1 (Nat.le_refl _)
      have hbA : Below w.heap.size w w1 := (by (try show Below _ _ _); repeat (first | (with_reducible refine Below.setCell ?_ (by first | omega | (simp <;> omega)) _) | (with_reducible refine Below.alloc ?_ (by first | omega | (simp <;> omega)) _) | (with_reducible refine Below.drew ?_) | (with_reducible exact Below.refl _ _) | (with_reducible exact hb0) | (with_reducible refine below_call ?_ (by assumption) (by first | omega | (simp <;> omega))) | (with_reducible refine below_call ?_ (Drew.below (by assumption) _) (by first | omega | (simp <;> omega)))))
      have hbw1 : b < w1.heap.size := by omega
      clear hb1 hc1_s hf1_s hl1 o5 o6 o7 hck0 hck1 hck2
      go_wp2_with fail
      generalize hwz : World.alloc w1 _ = wz
      have z5 := p5.alloc (.cells #[.int .i64 bl, .int .i64 bh] 32)
      have z6 := p6.alloc (.cells #[.int .i64 bl, .int .i64 bh] 32)
      have z7 := p7.alloc (.cells #[.int .i64 bl, .int .i64 bh] 32)
      have f0 : (w1.alloc (.cells #[.int .i64 bl, .int .i64 bh] 32)).cell? ⟨wr.heap.size, 0, none⟩ = some (.int .i64 x) := by simp [go_sem, e0, hz1_s]
      have f1 : (w1.alloc (.cells #[.int .i64 bl, .int .i64 bh] 32)).cell? ⟨wr.heap.size, 1, none⟩ = some (.int .i64 (1 + y)) := by simp [go_sem, e1, hz1_s]
      have f2 : (w1.alloc (.cells #[.int .i64 bl, .int .i64 bh] 32)).cell? ⟨w1.heap.size, 0, none⟩ = some (.int .i64 bl) := by simp [go_sem]
      have f3 : (w1.alloc (.cells #[.int .i64 bl, .int .i64 bh] 32)).cell? ⟨w1.heap.size, 1, none⟩ = some (.int .i64 bh) := by simp [go_sem]
      have f4 : (w1.alloc (.cells #[.int .i64 bl, .int .i64 bh] 32)).cell? ⟨b, o + k * 3 + 2, none⟩ = some (.int .u16 z) := by simp [go_sem, hl1', hbw1]
      have hbz : Below w.heap.size w (w1.alloc (.cells #[.int .i64 bl, .int .i64 bh] 32)) := (by (try show Below _ _ _); repeat (first | (with_reducible refine Below.setCell ?_ (by first | omega | (simp <;> omega)) _) | (with_reducible refine Below.alloc ?_ (by first | omega | (simp <;> omega)) _) | (with_reducible refine Below.drew ?_) | (with_reducible exact Below.refl _ _) | (with_reducible exact hbA) | (with_reducible refine below_call ?_ (by assumption) (by first | omega | (simp <;> omega))) | (with_reducible refine below_call ?_ (Drew.below (by assumption) _) (by first | omega | (simp <;> omega)))))
      have hzz : (w1.alloc (.cells #[.int .i64 bl, .int .i64 bh] 32)).heap.size > w1.heap.size := by simp
      rw [hwz] at z5 z6 z7 f0 f1 f2 f3 f4 hbz hzz
      clear hwz hl1' e0 e1 p5 p6 p7 hbA
      go_region_held3 (fun w' => w'.cell? ⟨wr.heap.size, 0, none⟩ = some (.int .i64 x) ∧ w'.cell? ⟨wr.heap.size, 1, none⟩ = some (.int .i64 (1 + y)) ∧ w'.cell? ⟨b, o + k * 3 + 2, none⟩ = some (.int .u16 z))
        (first
          | go_keep
          | (go_split_ands
             refine ⟨?_, ?_, ?_⟩
             · (rw [hgrow.cell_far _ (by simp; omega) (by simp [Value.ownBlock]; omega)]; assumption)
             · (rw [hgrow.cell_far _ (by simp; omega) (by simp [Value.ownBlock]; omega)]; assumption)
             · (rw [hgrow.cell_far _ (by simp; omega) (by simp [Value.ownBlock]; omega)]; assumption)))
        ((refine step_append_lies _ (by rfl) _ _ _ (by rfl) w.heap.size 37 i5 _ 4 32 Try.underlying25 hi5 hz5 hs5 hb5 rfl (by omega) (rowV g5 k c5) k _ (by rfl) ((z5.alloc _).drew)
            ⟨wz.heap.size, 0, none⟩ 1 1 (kegCells ⟨x, 1 + y, (IntKind.i64.wrap z).tmod 1001, IntKind.i64.wrap (1 + (IntKind.i64.wrap z).tmod 9)⟩) (by rfl) (by rfl) (World.news_of_block (cs := #[.int .i64 x, .int .i64 (1 + y), .int .i64 ((IntKind.i64.wrap z).tmod 1001), .int .i64 (IntKind.i64.wrap (1 + (IntKind.i64.wrap z).tmod 9))]) (t := 37) (fr := (0, 0)) (heap_alloc_new wz _)) (by simp [Value.oneCell', kegCells])
            (by omega) (by simp only [maxLen]; omega) (by omega) (by simp; omega) (wz.heap.size + 1) (by simp) ?_; intro h5 d5 w2 q5 hgrow hat5 hlt5))
      have hbA : Below w.heap.size w w2 := Below.grown (by (try show Below _ _ _); repeat (first | (with_reducible refine Below.setCell ?_ (by first | omega | (simp <;> omega)) _) | (with_reducible refine Below.alloc ?_ (by first | omega | (simp <;> omega)) _) | (with_reducible refine Below.drew ?_) | (with_reducible exact Below.refl _ _) | (with_reducible exact hbz) | (with_reducible refine below_call ?_ (by assumption) (by first | omega | (simp <;> omega))) | (with_reducible refine below_call ?_ (Drew.below (by assumption) _) (by first | omega | (simp <;> omega))))) hgrow (by simp; omega) (by simp [Value.ownBlock]; omega)
      have hsA := hgrow.size
      simp only [World.size_drew, World.size_alloc] at hsA
      have y5 := q5
      have y6 := World.ownsRow.kept ((z6.alloc _).drew) hgrow (Or.inr (by simp [Value.ownBlock]; omega))
      have y7 := World.ownsRow.kept ((z7.alloc _).drew) hgrow (Or.inr (by simp [Value.ownBlock]; omega))
      have nA := own_ne y5 y6 (by decide)
      have nB := own_ne y5 y7 (by decide)
      have nC := own_ne y6 y7 (by decide)
      have hlz1 : wr.heap.size < wz.heap.size := by omega
      have hlz2 : w1.heap.size < wz.heap.size := by omega
      have m0 : w2.cell? ⟨wr.heap.size, 0, none⟩ = some (.int .i64 x) := by rw [hgrow.cell_far _ (by simp; omega) (by simp [Value.ownBlock]; omega)]; simp [go_sem, f0, hlz1, hlz2]
      have m1 : w2.cell? ⟨wr.heap.size, 1, none⟩ = some (.int .i64 (1 + y)) := by rw [hgrow.cell_far _ (by simp; omega) (by simp [Value.ownBlock]; omega)]; simp [go_sem, f1, hlz1, hlz2]
      have m2 : w2.cell? ⟨w1.heap.size, 0, none⟩ = some (.int .i64 bl) := by rw [hgrow.cell_far _ (by simp; omega) (by simp [Value.ownBlock]; omega)]; simp [go_sem, f2, hlz1, hlz2]
      have m3 : w2.cell? ⟨w1.heap.size, 1, none⟩ = some (.int .i64 bh) := by rw [hgrow.cell_far _ (by simp; omega) (by simp [Value.ownBlock]; omega)]; simp [go_sem, f3, hlz1, hlz2]
      clear hgrow q5 z5 z6 z7 f0 f1 f2 f3 f4 hbz
      go_wp2_with fail
      go_region_held3 (fun w' => w'.cell? ⟨wr.heap.size, 0, none⟩ = some (.int .i64 x) ∧ w'.cell? ⟨wr.heap.size, 1, none⟩ = some (.int .i64 (1 + y)) ∧ w'.cell? ⟨w1.heap.size, 0, none⟩ = some (.int .i64 bl) ∧ w'.cell? ⟨w1.heap.size, 1, none⟩ = some (.int .i64 bh))
        (first
          | go_keep
          | (go_split_ands
             refine ⟨?_, ?_, ?_, ?_⟩
             · first | (rw [hg6.cell_far _ (by simp; omega) (by simp [Value.ownBlock]; omega)]; assumption) | (rw [hg7.cell_far _ (by simp; omega) (by simp [Value.ownBlock]; omega)]; assumption)
             · first | (rw [hg6.cell_far _ (by simp; omega) (by simp [Value.ownBlock]; omega)]; assumption) | (rw [hg7.cell_far _ (by simp; omega) (by simp [Value.ownBlock]; omega)]; assumption)
             · first | (rw [hg6.cell_far _ (by simp; omega) (by simp [Value.ownBlock]; omega)]; assumption) | (rw [hg7.cell_far _ (by simp; omega) (by simp [Value.ownBlock]; omega)]; assumption)
             · first | (rw [hg6.cell_far _ (by simp; omega) (by simp [Value.ownBlock]; omega)]; assumption) | (rw [hg7.cell_far _ (by simp; omega) (by simp [Value.ownBlock]; omega)]; assumption)))
        (first
          | (refine step_append_lies _ (by rfl) _ _ _ (by rfl) w.heap.size 30 i6 _ 2 16 Try.underlying26 hi6 hz6 hs6 hb6 rfl (by omega) (rowV g6 k c6) k _ (by rfl) (by first | exact (y6.alloc _).drew | exact ((y6.alloc _).alloc _).drew | exact y6.alloc _ | exact y6) _ 1 1 [.int .i64 x, .int .i64 (1 + y)] (by rfl) (by rfl) (by first | exact news2 (by simp [go_sem]) (by simp [go_sem]) | exact news2 (by rw [hg6.cell_far _ (by simp <;> omega) (by simp [Value.ownBlock]; omega)]; simp [go_sem]) (by rw [hg6.cell_far _ (by simp <;> omega) (by simp [Value.ownBlock]; omega)]; simp [go_sem]) | exact news2 (by rw [hg7.cell_far _ (by simp <;> omega) (by simp [Value.ownBlock]; omega)]; simp [go_sem]) (by rw [hg7.cell_far _ (by simp <;> omega) (by simp [Value.ownBlock]; omega)]; simp [go_sem])) (by simp [Value.oneCell']) (by omega) (by simp only [maxLen]; omega) (by omega) (by first | omega | (simp; omega)) _ (by rfl) ?_; intro h6 d6 w6 q6 hg6 hat6 hlt6; have hbA : Below w.heap.size w w6 := Below.grown (by (try show Below _ _ _); repeat (first | (with_reducible refine Below.setCell ?_ (by first | omega | (simp <;> omega)) _) | (with_reducible refine Below.alloc ?_ (by first | omega | (simp <;> omega)) _) | (with_reducible refine Below.drew ?_) | (with_reducible exact Below.refl _ _) | (with_reducible exact hbA) | (with_reducible refine below_call ?_ (by assumption) (by first | omega | (simp <;> omega))) | (with_reducible refine below_call ?_ (Drew.below (by assumption) _) (by first | omega | (simp <;> omega))))) hg6 (by first | omega | (simp; omega)) (by simp [Value.ownBlock]; omega); have hsA := hg6.size; (try simp only [World.size_drew, World.size_alloc] at hsA); (first | have y5 := World.ownsRow.kept ((y5.alloc _).drew) hg6 (Or.inr (by simp [Value.ownBlock]; omega)) | have y5 := World.ownsRow.kept (((y5.alloc _).alloc _).drew) hg6 (Or.inr (by simp [Value.ownBlock]; omega)) | have y5 := World.ownsRow.kept (y5.alloc _) hg6 (Or.inr (by simp [Value.ownBlock]; omega)) | have y5 := World.ownsRow.kept (y5) hg6 (Or.inr (by simp [Value.ownBlock]; omega))); (first | have y7 := World.ownsRow.kept ((y7.alloc _).drew) hg6 (Or.inr (by simp [Value.ownBlock]; omega)) | have y7 := World.ownsRow.kept (((y7.alloc _).alloc _).drew) hg6 (Or.inr (by simp [Value.ownBlock]; omega)) | have y7 := World.ownsRow.kept (y7.alloc _) hg6 (Or.inr (by simp [Value.ownBlock]; omega)) | have y7 := World.ownsRow.kept (y7) hg6 (Or.inr (by simp [Value.ownBlock]; omega))); have y6 := q6; have nA := own_ne y5 y6 (by decide); have nB := own_ne y5 y7 (by decide); have nC := own_ne y6 y7 (by decide))
          | (refine step_append_lies _ (by rfl) _ _ _ (by rfl) w.heap.size 32 i7 _ 2 16 Try.underlying27 hi7 hz7 hs7 hb7 rfl (by omega) (rowV g7 k c7) k _ (by rfl) (by first | exact (y7.alloc _).drew | exact ((y7.alloc _).alloc _).drew | exact y7.alloc _ | exact y7) _ 1 1 [.int .i64 bl, .int .i64 bh] (by rfl) (by rfl) (by first | exact news2 (by simp [go_sem]) (by simp [go_sem]) | exact news2 (by rw [hg6.cell_far _ (by simp <;> omega) (by simp [Value.ownBlock]; omega)]; simp [go_sem]) (by rw [hg6.cell_far _ (by simp <;> omega) (by simp [Value.ownBlock]; omega)]; simp [go_sem]) | exact news2 (by rw [hg7.cell_far _ (by simp <;> omega) (by simp [Value.ownBlock]; omega)]; simp [go_sem]) (by rw [hg7.cell_far _ (by simp <;> omega) (by simp [Value.ownBlock]; omega)]; simp [go_sem])) (by simp [Value.oneCell']) (by omega) (by simp only [maxLen]; omega) (by omega) (by first | omega | (simp; omega)) _ (by rfl) ?_; intro h7 d7 w7 q7 hg7 hat7 hlt7; have hbA : Below w.heap.size w w7 := Below.grown (by (try show Below _ _ _); repeat (first | (with_reducible refine Below.setCell ?_ (by first | omega | (simp <;> omega)) _) | (with_reducible refine Below.alloc ?_ (by first | omega | (simp <;> omega)) _) | (with_reducible refine Below.drew ?_) | (with_reducible exact Below.refl _ _) | (with_reducible exact hbA) | (with_reducible refine below_call ?_ (by assumption) (by first | omega | (simp <;> omega))) | (with_reducible refine below_call ?_ (Drew.below (by assumption) _) (by first | omega | (simp <;> omega))))) hg7 (by first | omega | (simp; omega)) (by simp [Value.ownBlock]; omega); have hsA := hg7.size; (try simp only [World.size_drew, World.size_alloc] at hsA); (first | have y5 := World.ownsRow.kept ((y5.alloc _).drew) hg7 (Or.inr (by simp [Value.ownBlock]; omega)) | have y5 := World.ownsRow.kept (((y5.alloc _).alloc _).drew) hg7 (Or.inr (by simp [Value.ownBlock]; omega)) | have y5 := World.ownsRow.kept (y5.alloc _) hg7 (Or.inr (by simp [Value.ownBlock]; omega)) | have y5 := World.ownsRow.kept (y5) hg7 (Or.inr (by simp [Value.ownBlock]; omega))); (first | have y6 := World.ownsRow.kept ((y6.alloc _).drew) hg7 (Or.inr (by simp [Value.ownBlock]; omega)) | have y6 := World.ownsRow.kept (((y6.alloc _).alloc _).drew) hg7 (Or.inr (by simp [Value.ownBlock]; omega)) | have y6 := World.ownsRow.kept (y6.alloc _) hg7 (Or.inr (by simp [Value.ownBlock]; omega)) | have y6 := World.ownsRow.kept (y6) hg7 (Or.inr (by simp [Value.ownBlock]; omega))); have y7 := q7; have nA := own_ne y5 y6 (by decide); have nB := own_ne y5 y7 (by decide); have nC := own_ne y6 y7 (by decide)))
      all_goals
        go_wp2
        go_roundg (n - (k + 1))
        case measure => omega
        case rel =>
          refine ⟨k + 1, h5, d5, h6, d6, h7, d7, by omega, by omega, by go_num, rfl, rfl, rfl, ?_⟩
          exact { below := hbA, o5 := (by rw [fm_snoc _ L k (by have := hn.out; omega) _ HT.out, ← hkeg.out]; exact y5), o6 := (by rw [fm_snoc _ L k (by have := hn.out; omega) _ HT.out]; exact y6), o7 := (by rw [fm_snoc _ L k (by have := hn.out; omega) _ HT.out]; show World.ownsRow _ _ _ _ _ _ (_ ++ rCells (brixV ⟨x, 1 + y⟩)); rw [HBV.out]; exact y7) }
    · have hltz : ¬ (k : Int) < (n : Int) := by omega
      obtain rfl : k = n := by omega
      have htk : L.take k = L := List.take_of_length_le (by have := hn.out; omega)
      rw [htk] at o5 o6 o7
      obtain ⟨W, S, lt, fl, il, ih, hl', hh', d0, d1, l0, l1, M⟩ := hM (by have := hn.out; omega) (by have := hn.out; omega)
      have r6 := rs_own T3.sap o6 hn.out
      have r7 := rs_own (fun t => brixV t.sap) o7 hn.out
      have hMx := fun (A : Option Addr) (c : Nat) (W' : World) h => Mixed_any 0 A k c (L.map T3.keg) W' h (Lib.hid (by rw [List.length_map]; exact hn.out)) hl
      have hMi := fun (A : Option Addr) (c : Nat) (W' : World) h => mix_any 0 A k c (L.map T3.sap) W' h (Lib.hid (by rw [List.length_map]; exact hn.out)) hl
      have hBr := fun (W' : World) => brix_any W S W'
      have hHu := fun (A : Option Addr) (c : Nat) (W' : World) h hc hm => Hull_any 0 A k c (L.map fun t => brixV t.sap) W' h (Lib.hid (by rw [List.length_map]; exact hn.out)) hc hm
      have hDr := fun (W' : World) => Draw_any W S (1 + part % (W + S)) W'
      rw [M.mixed] at hMx
      rw [M.mix] at hMi
      rw [M.brix] at hBr
      rw [M.hull] at hHu
      rw [M.draw] at hDr
      simp only [RE, K.val] at hMx hMi hBr hHu hDr
      obtain ⟨hm1, hm2, hm3, hm4⟩ := M.mass
      have hlow := M.low
      have hhigh := M.high
      have Hone := Lib.hid M.one
      have Htwo := Lib.hid M.two
      obtain ⟨hc7, hc7m⟩ := own_cap o7
      clear M hM hx htk HB HL
      have ob := World.ownsRow_lit (base := w.heap.size) (e := 37) (size := 4) wr #[] 0 hzb (by decide) rfl
      go_wp2_with (at_builtin; refine wpList_append_lies _ rfl _ _ _ (by rfl) w.heap.size 37 i5 _ 4 32 Try.underlying25 hi5 hz5 hs5 hb5 rfl (by omega) (rowV wr.heap.size 0 0) 0 [] (by rfl) ob ⟨g5, 0, none⟩ k c5 (L.flatMap fun t => kegCells t.keg) (by rfl) (by rw [flat_len 4 (fun t : T3 => kegCells t.keg) (fun _ => rfl), hn.out]) ((o5.alloc _).cells rfl) (one_kegs L) (by omega) (by simp only [maxLen]; omega) (by omega) (by simp; omega) (wr.heap.size + 1) (by simp) ?_; intro ga da wa qa hga hata hlta)
      have hba : Below wr.heap.size wr wa := Below.grown ((Below.refl _ _).alloc (Nat.le_refl _) _) hga (by simp) (by simp [Value.ownBlock])
      have qa' : Kegs wa 0 (some ⟨ga, 0, none⟩) (L.map T3.keg) := kegs_own (n := k) (c := da) (e := 37) (base := w.heap.size) (by simpa using qa) hn.out
      have r6a := r6.below hba (Nat.le_refl _)
      have r7a := r7.below hba (Nat.le_refl _)
      have hbA : Below w.heap.size w wa := hb0.trans (hba.mono hzb)
      have hzA := hba.size
      clear hga hata hlta qa o5 o6 o7 r6 r7 hba ob
      go_wp2_with fail
      refine (hMx _ _ _ qa').mono ?_
      rintro e w1 ⟨rfl, hb1⟩
      have hz1 := hb1.size
      try simp only [World.size_alloc, World.size_setCell] at hz1
      have r6b := r6a.below hb1 (Nat.le_refl _)
      have r7b := r7a.below hb1 (Nat.le_refl _)
      have hbB := below_call hbA hb1 (by omega)
      clear r6a r7a hb1 qa' hMx
      go_wp2_with fail
      refine (hMi _ _ _ (r6b.below ((Below.refl _ _).alloc (Nat.le_refl _) _) (Nat.le_refl _))).mono ?_
      rintro e w2 ⟨rfl, hb2⟩
      have hz2 := hb2.size
      try simp only [World.size_alloc, World.size_setCell] at hz2
      have hc2_a := fun o => hb2.cell (p := ⟨w1.heap.size, o, none⟩) (by show w1.heap.size < _; first | omega | (simp only [World.size_alloc, World.size_setCell, World.size_drew]; omega))
      have hf2_a := fun o => hb2.frozen (p := ⟨w1.heap.size, o, none⟩) (by show w1.heap.size < _; first | omega | (simp only [World.size_alloc, World.size_setCell, World.size_drew]; omega))
      have hz2_a : w1.heap.size < w2.heap.size := by omega
      have r7c := (r7b.below ((Below.refl w1.heap.size _).alloc (Nat.le_refl _) _) (Nat.le_refl _)).below hb2 (Nat.le_refl _)
      have a0 : w2.cell? ⟨w1.heap.size, 0, none⟩ = some (.int .i64 W) := by simp [go_sem, hc2_a]
      have a1 : w2.cell? ⟨w1.heap.size, 1, none⟩ = some (.int .i64 S) := by simp [go_sem, hc2_a]
      have a2 : w2.cell? ⟨w1.heap.size, 2, none⟩ = some (.int .i64 lt) := by simp [go_sem, hc2_a]
      have a3 : w2.cell? ⟨w1.heap.size, 3, none⟩ = some (.int .i64 fl) := by simp [go_sem, hc2_a]
      have hbC : Below w.heap.size w w2 := (by (try show Below _ _ _); repeat (first | (with_reducible refine Below.setCell ?_ (by first | omega | (simp <;> omega)) _) | (with_reducible refine Below.alloc ?_ (by first | omega | (simp <;> omega)) _) | (with_reducible refine Below.drew ?_) | (with_reducible exact Below.refl _ _) | (with_reducible exact hbB) | (with_reducible refine below_call ?_ (by assumption) (by first | omega | (simp <;> omega))) | (with_reducible refine below_call ?_ (Drew.below (by assumption) _) (by first | omega | (simp <;> omega)))))
      clear r6b r7b hb2 hc2_a hf2_a hMi
      go_wp2_with fail
      refine (hBr _).mono ?_
      rintro e w3 ⟨rfl, hb3⟩
      have hz3 := hb3.size
      try simp only [World.size_alloc, World.size_setCell] at hz3
      have hc3_a := fun o => hb3.cell (p := ⟨w1.heap.size, o, none⟩) (by show w1.heap.size < _; first | omega | (simp only [World.size_alloc, World.size_setCell, World.size_drew]; omega))
      have hf3_a := fun o => hb3.frozen (p := ⟨w1.heap.size, o, none⟩) (by show w1.heap.size < _; first | omega | (simp only [World.size_alloc, World.size_setCell, World.size_drew]; omega))
      have hz3_a : w1.heap.size < w3.heap.size := by omega
      have hc3_b := fun o => hb3.cell (p := ⟨w2.heap.size, o, none⟩) (by show w2.heap.size < _; first | omega | (simp only [World.size_alloc, World.size_setCell, World.size_drew]; omega))
      have hf3_b := fun o => hb3.frozen (p := ⟨w2.heap.size, o, none⟩) (by show w2.heap.size < _; first | omega | (simp only [World.size_alloc, World.size_setCell, World.size_drew]; omega))
      have hz3_b : w2.heap.size < w3.heap.size := by omega
      have r7d := (r7c.below ((Below.refl w2.heap.size _).alloc (Nat.le_refl _) _) (Nat.le_refl _)).below hb3 (Nat.le_refl _)
      have b0 : w3.cell? ⟨w1.heap.size, 0, none⟩ = some (.int .i64 W) := by simp [go_sem, hc3_a, a0, hz2_a]
      have b1 : w3.cell? ⟨w1.heap.size, 1, none⟩ = some (.int .i64 S) := by simp [go_sem, hc3_a, a1, hz2_a]
      have b2 : w3.cell? ⟨w1.heap.size, 2, none⟩ = some (.int .i64 lt) := by simp [go_sem, hc3_a, a2, hz2_a]
      have b3 : w3.cell? ⟨w1.heap.size, 3, none⟩ = some (.int .i64 fl) := by simp [go_sem, hc3_a, a3, hz2_a]
      have b4 : w3.cell? ⟨w2.heap.size, 0, none⟩ = some (.int .i64 W) := by simp [go_sem, hc3_b]
      have b5 : w3.cell? ⟨w2.heap.size, 1, none⟩ = some (.int .i64 S) := by simp [go_sem, hc3_b]
      have hbD : Below w.heap.size w w3 := (by (try show Below _ _ _); repeat (first | (with_reducible refine Below.setCell ?_ (by first | omega | (simp <;> omega)) _) | (with_reducible refine Below.alloc ?_ (by first | omega | (simp <;> omega)) _) | (with_reducible refine Below.drew ?_) | (with_reducible exact Below.refl _ _) | (with_reducible exact hbC) | (with_reducible refine below_call ?_ (by assumption) (by first | omega | (simp <;> omega))) | (with_reducible refine below_call ?_ (Drew.below (by assumption) _) (by first | omega | (simp <;> omega)))))
      clear r7c hb3 hc3_a hf3_a hc3_b hf3_b hBr a0 a1 a2 a3
      go_wp2_with fail
      refine (hHu _ _ _ (r7d.below ((Below.refl _ _).alloc (Nat.le_refl _) _) (Nat.le_refl _)) hc7 hc7m).mono ?_
      rintro e w4 ⟨rfl, hb4⟩
      have hz4 := hb4.size
      try simp only [World.size_alloc, World.size_setCell] at hz4
      have hc4_a := fun o => hb4.cell (p := ⟨w1.heap.size, o, none⟩) (by show w1.heap.size < _; first | omega | (simp only [World.size_alloc, World.size_setCell, World.size_drew]; omega))
      have hf4_a := fun o => hb4.frozen (p := ⟨w1.heap.size, o, none⟩) (by show w1.heap.size < _; first | omega | (simp only [World.size_alloc, World.size_setCell, World.size_drew]; omega))
      have hz4_a : w1.heap.size < w4.heap.size := by omega
      have hc4_b := fun o => hb4.cell (p := ⟨w2.heap.size, o, none⟩) (by show w2.heap.size < _; first | omega | (simp only [World.size_alloc, World.size_setCell, World.size_drew]; omega))
      have hf4_b := fun o => hb4.frozen (p := ⟨w2.heap.size, o, none⟩) (by show w2.heap.size < _; first | omega | (simp only [World.size_alloc, World.size_setCell, World.size_drew]; omega))
      have hz4_b : w2.heap.size < w4.heap.size := by omega
      have hc4_c := fun o => hb4.cell (p := ⟨w3.heap.size, o, none⟩) (by show w3.heap.size < _; first | omega | (simp only [World.size_alloc, World.size_setCell, World.size_drew]; omega))
      have hf4_c := fun o => hb4.frozen (p := ⟨w3.heap.size, o, none⟩) (by show w3.heap.size < _; first | omega | (simp only [World.size_alloc, World.size_setCell, World.size_drew]; omega))
      have hz4_c : w3.heap.size < w4.heap.size := by omega
      have c0 : w4.cell? ⟨w1.heap.size, 0, none⟩ = some (.int .i64 W) := by simp [go_sem, hc4_a, b0, hz3_a]
      have c1 : w4.cell? ⟨w1.heap.size, 1, none⟩ = some (.int .i64 S) := by simp [go_sem, hc4_a, b1, hz3_a]
      have c2 : w4.cell? ⟨w1.heap.size, 2, none⟩ = some (.int .i64 lt) := by simp [go_sem, hc4_a, b2, hz3_a]
      have c3 : w4.cell? ⟨w1.heap.size, 3, none⟩ = some (.int .i64 fl) := by simp [go_sem, hc4_a, b3, hz3_a]
      have c4 : w4.cell? ⟨w2.heap.size, 0, none⟩ = some (.int .i64 W) := by simp [go_sem, hc4_b, b4, hz3_b]
      have c5' : w4.cell? ⟨w2.heap.size, 1, none⟩ = some (.int .i64 S) := by simp [go_sem, hc4_b, b5, hz3_b]
      have c6' : w4.cell? ⟨w3.heap.size, 0, none⟩ = some (.int .i64 il) := by simp [go_sem, hc4_c]
      have c7' : w4.cell? ⟨w3.heap.size, 1, none⟩ = some (.int .i64 ih) := by simp [go_sem, hc4_c]
      have hbE : Below w.heap.size w w4 := (by (try show Below _ _ _); repeat (first | (with_reducible refine Below.setCell ?_ (by first | omega | (simp <;> omega)) _) | (with_reducible refine Below.alloc ?_ (by first | omega | (simp <;> omega)) _) | (with_reducible refine Below.drew ?_) | (with_reducible exact Below.refl _ _) | (with_reducible exact hbD) | (with_reducible refine below_call ?_ (by assumption) (by first | omega | (simp <;> omega))) | (with_reducible refine below_call ?_ (Drew.below (by assumption) _) (by first | omega | (simp <;> omega)))))
      clear r7d hb4 hc4_a hf4_a hc4_b hf4_b hc4_c hf4_c hHu b0 b1 b2 b3 b4 b5
      have t1 : ¬ W + S < 1 := by omega
      have t2 : ¬ il < hl' := by omega
      have t3 : ¬ hh' < ih := by omega
      go_upto_region 19 with (fail)
      generalize hwz : World.alloc w4 _ = wz
      have k0 : (w4.alloc (.cells #[.int .i64 hl', .int .i64 hh'] 32)).cell? ⟨w1.heap.size, 0, none⟩ = some (.int .i64 W) := by simp [go_sem, c0, hz4_a]
      have k1 : (w4.alloc (.cells #[.int .i64 hl', .int .i64 hh'] 32)).cell? ⟨w1.heap.size, 1, none⟩ = some (.int .i64 S) := by simp [go_sem, c1, hz4_a]
      have k2 : (w4.alloc (.cells #[.int .i64 hl', .int .i64 hh'] 32)).cell? ⟨w1.heap.size, 2, none⟩ = some (.int .i64 lt) := by simp [go_sem, c2, hz4_a]
      have k3 : (w4.alloc (.cells #[.int .i64 hl', .int .i64 hh'] 32)).cell? ⟨w1.heap.size, 3, none⟩ = some (.int .i64 fl) := by simp [go_sem, c3, hz4_a]
      have k4 : (w4.alloc (.cells #[.int .i64 hl', .int .i64 hh'] 32)).cell? ⟨w2.heap.size, 0, none⟩ = some (.int .i64 W) := by simp [go_sem, c4, hz4_b]
      have k5 : (w4.alloc (.cells #[.int .i64 hl', .int .i64 hh'] 32)).cell? ⟨w2.heap.size, 1, none⟩ = some (.int .i64 S) := by simp [go_sem, c5', hz4_b]
      have hbF : Below w.heap.size w (w4.alloc (.cells #[.int .i64 hl', .int .i64 hh'] 32)) := (by (try show Below _ _ _); repeat (first | (with_reducible refine Below.setCell ?_ (by first | omega | (simp <;> omega)) _) | (with_reducible refine Below.alloc ?_ (by first | omega | (simp <;> omega)) _) | (with_reducible refine Below.drew ?_) | (with_reducible exact Below.refl _ _) | (with_reducible exact hbE) | (with_reducible refine below_call ?_ (by assumption) (by first | omega | (simp <;> omega))) | (with_reducible refine below_call ?_ (Drew.below (by assumption) _) (by first | omega | (simp <;> omega)))))
      have hza : w1.heap.size < (w4.alloc (.cells #[.int .i64 hl', .int .i64 hh'] 32)).heap.size := by simp; omega
      have hzb' : w2.heap.size < (w4.alloc (.cells #[.int .i64 hl', .int .i64 hh'] 32)).heap.size := by simp; omega
      rw [hwz] at k0 k1 k2 k3 k4 k5 hbF hza hzb'
      have hzw := hbF.size
      clear hwz c0 c1 c2 c3 c4 c5' c6' c7' hbE hz4_a hz4_b hz4_c hz3_a hz3_b hz2_a
      have hne1 : ¬ wz.heap.size = w1.heap.size := by omega
      have hne2 : ¬ wz.heap.size = w2.heap.size := by omega
      have hne3 : ¬ wz.heap.size + 1 = w1.heap.size := by omega
      have hne4 : ¬ wz.heap.size + 1 = w2.heap.size := by omega
      have hp1 := Lib.hid (part_eq part (W + S) hp ⟨hm1, hm2⟩)
      have hp2 := Lib.hid (part_eq2 part (W + S) hp ⟨hm1, hm2⟩)
      have hp3 := Lib.hid (part_eq3 part (W + S) hp)
      have hp4 := Lib.hid (part_eq4 part (W + S) hp ⟨hm1, hm2⟩)
      have hDr' : ∀ m, m = 1 + part % (W + S) → ∀ W', Calls Try.prog 12 #[.agg #[.int .i64 W, .int .i64 S], .int .i64 m] W' fun e w' => e = .returned (.tuple #[.agg #[.int .i64 d0, .int .i64 d1], .agg #[.int .i64 l0, .int .i64 l1], .int .i64 0]) ∧ Below W'.heap.size W' w' := by
        rintro m rfl W'
        exact hDr W'
      clear hDr
      have hws : IntKind.i64.wrap (W + S) = W + S := by rw [IntKind.wrap_i64]; omega
      have hwp : IntKind.i64.wrap part = part := by rw [IntKind.wrap_i64]; omega
      have hnz : ((W + S) == 0) = false := by rw [beq_eq_false_iff_ne]; omega
      have hnz2 : W + S ≠ 0 := by omega
      go_cut [13, 20, 21] (fun s13 s20 s21 wx => ∃ p q : Nat, s13 = .int .i64 0 ∧ s20 = .pointer (some ⟨p, 0, none⟩) ∧ s21 = .pointer (some ⟨q, 0, none⟩) ∧ Aside (CutI w w1.heap.size p q W S lt fl d0 d1 l0 l1 wx))
      case first =>
        go_region_held3 (fun w' => w'.cell? ⟨w1.heap.size, 0, none⟩ = some (.int .i64 W) ∧ w'.cell? ⟨w1.heap.size, 1, none⟩ = some (.int .i64 S) ∧ w'.cell? ⟨w2.heap.size, 0, none⟩ = some (.int .i64 W) ∧ w'.cell? ⟨w2.heap.size, 1, none⟩ = some (.int .i64 S))
          (first
            | go_keep
            | (go_split_ands
               refine ⟨?_, ?_, ?_, ?_⟩ <;> first | (rw [hka]; assumption) | (rw [hkb]; assumption) | (simp [go_sem, cell_set, hka, hkb, k0, k1, k4, k5, hza, hzb', hza5, hzb5, hne1, hne2, hne3, hne4]; done)))
          ((go_at_call 12; refine (hDr' _ (by first | rfl | exact hp1.out | exact hp2.out | exact hp3.out | exact hp4.out) _).mono ?_; rintro e w5 ⟨rfl, hb5⟩; have hka := fun o => hb5.cell (p := ⟨w1.heap.size, o, none⟩) (by show w1.heap.size < _; first | omega | (simp only [World.size_alloc, World.size_setCell, World.size_drew]; omega)); have hkb := fun o => hb5.cell (p := ⟨w2.heap.size, o, none⟩) (by show w2.heap.size < _; first | omega | (simp only [World.size_alloc, World.size_setCell, World.size_drew]; omega)); have hz5 := hb5.size; (try simp only [World.size_alloc, World.size_drew] at hz5); (try have hzp5 : wz.heap.size < w5.heap.size := by omega); (try have hzq5 : wz.heap.size + 1 < w5.heap.size := by omega); have hza5 : w1.heap.size < w5.heap.size := (by omega); have hzb5 : w2.heap.size < w5.heap.size := (by omega); (try have hkp := fun o => hb5.cell (p := ⟨wz.heap.size, o, none⟩) (by show wz.heap.size < _; first | omega | (simp only [World.size_alloc, World.size_setCell, World.size_drew]; omega))); (try have hfp := fun o => hb5.frozen (p := ⟨wz.heap.size, o, none⟩) (by show wz.heap.size < _; first | omega | (simp only [World.size_alloc, World.size_setCell, World.size_drew]; omega))); (try have hkq := fun o => hb5.cell (p := ⟨wz.heap.size + 1, o, none⟩) (by show wz.heap.size + 1 < _; first | omega | (simp only [World.size_alloc, World.size_setCell, World.size_drew]; omega))); (try have hfq := fun o => hb5.frozen (p := ⟨wz.heap.size + 1, o, none⟩) (by show wz.heap.size + 1 < _; first | omega | (simp only [World.size_alloc, World.size_setCell, World.size_drew]; omega)))))
        all_goals
          go_wp2_with fail
          go_meet
          refine ⟨_, _, rfl, rfl, rfl, ?_⟩
          clear k4 k5 hDr' hK
          exact { below := (by (try show Below _ _ _); repeat (first | (with_reducible refine Below.setCell ?_ (by first | omega | (simp <;> omega)) _) | (with_reducible refine Below.alloc ?_ (by first | omega | (simp <;> omega)) _) | (with_reducible refine Below.drew ?_) | (with_reducible exact Below.refl _ _) | (with_reducible exact hbF) | (with_reducible refine below_call ?_ (by assumption) (by first | omega | (simp <;> omega))) | (with_reducible refine below_call ?_ (Drew.below (by assumption) _) (by first | omega | (simp <;> omega))))), sa := (by simp <;> omega), sp := (by simp <;> omega), sq := (by simp <;> omega), a0 := (by simp [go_sem, cell_set, hka, hkb, k0, k1, k2, k3, hza, hza5, hne1, hne3]), a1 := (by simp [go_sem, cell_set, hka, hkb, k0, k1, k2, k3, hza, hza5, hne1, hne3]), a2 := (by simp [go_sem, cell_set, hka, hkb, k0, k1, k2, k3, hza, hza5, hne1, hne3]), a3 := (by simp [go_sem, cell_set, hka, hkb, k0, k1, k2, k3, hza, hza5, hne1, hne3]), p0 := (by first | (simp [go_sem, cell_set, hkp, hkq, hzp5, hzq5]; done) | (simp [go_sem, cell_set, hkp, hzp5]; done) | (simp [go_sem, cell_set]; done)), p1 := (by first | (simp [go_sem, cell_set, hkp, hkq, hzp5, hzq5]; done) | (simp [go_sem, cell_set, hkp, hzp5]; done) | (simp [go_sem, cell_set]; done)), q0 := (by first | (simp [go_sem, cell_set, hkp, hkq, hzp5, hzq5]; done) | (simp [go_sem, cell_set, hkp, hzp5]; done) | (simp [go_sem, cell_set]; done)), q1 := (by first | (simp [go_sem, cell_set, hkp, hkq, hzp5, hzq5]; done) | (simp [go_sem, cell_set, hkp, hzp5]; done) | (simp [go_sem, cell_set]; done)) }
      case rest =>
        obtain ⟨p, q, rfl, rfl, rfl, I⟩ := hcut
        obtain ⟨wx, hwx, I'⟩ : ∃ wx, wx = _ ∧ CutI w w1.heap.size p q W S lt fl d0 d1 l0 l1 wx := ⟨_, rfl, I.out⟩
        subst hwx
        obtain ⟨hbG, sa, sp, sq, a0, a1, a2, a3, p0, p1, q0, q1⟩ := I'
        have hzG := hbG.size
        clear I hDr' hne1 hne2 hne3 hne4 hp1 hp2 hp3 hp4
        by_cases hl0 : l0 = 0 ∧ l1 = 0
        · obtain ⟨rfl, rfl⟩ := hl0
          have hMy := fun (A : Option Addr) (c : Nat) (W' : World) h => Mixed_any 0 A 1 c [⟨d0, d1, lt, fl⟩] W' h rfl (by decide)
          rw [Hone.out rfl rfl] at hMy
          simp only [K.val] at hMy
          clear Hone Htwo
          go_wp2_with fail
          refine (hMy _ _ _ (kegs_one _ _ _)).mono ?_
          rintro e w6 ⟨rfl, hb6⟩
          have hz6 := hb6.size
          try simp only [World.size_alloc, World.size_setCell] at hz6
          have hc6_a := fun o => hb6.cell (p := ⟨w1.heap.size, o, none⟩) (by show w1.heap.size < _; first | omega | (simp only [World.size_alloc, World.size_setCell, World.size_drew]; omega))
          have hf6_a := fun o => hb6.frozen (p := ⟨w1.heap.size, o, none⟩) (by show w1.heap.size < _; first | omega | (simp only [World.size_alloc, World.size_setCell, World.size_drew]; omega))
          have hz6_a : w1.heap.size < w6.heap.size := by omega
          go_wp2_with fail
          refine (hK _).mono ?_
          rintro e w7 ⟨rfl, hb7⟩
          have hz7 := hb7.size
          try simp only [World.size_alloc, World.size_setCell] at hz7
          go_wp2
          go_ret
          exact ⟨rfl, (by (try show Below _ _ _); repeat (first | (with_reducible refine Below.setCell ?_ (by first | omega | (simp <;> omega)) _) | (with_reducible refine Below.alloc ?_ (by first | omega | (simp <;> omega)) _) | (with_reducible refine Below.drew ?_) | (with_reducible exact Below.refl _ _) | (with_reducible exact hbG) | (with_reducible refine below_call ?_ (by assumption) (by first | omega | (simp <;> omega))) | (with_reducible refine below_call ?_ (Drew.below (by assumption) _) (by first | omega | (simp <;> omega)))))⟩
        · have hMy := fun (A : Option Addr) (c : Nat) (W' : World) h => Mixed_any 0 A 2 c [⟨d0, d1, lt, fl⟩, ⟨l0, l1, lt, fl⟩] W' h rfl two_le
          rw [Htwo.out hl0] at hMy
          simp only [K.val] at hMy
          clear Hone Htwo
          have hbeq : ((l0 == 0) && (l1 == 0)) = false := by
            cases e : ((l0 == 0) && (l1 == 0)) with
            | false => rfl
            | true => simp at e; exact absurd e hl0
          have ob := World.ownsRow_lit (base := w.heap.size) (e := 37) (size := 4) wx #[.int .i64 d0, .int .i64 d1, .int .i64 lt, .int .i64 fl] 1 hzG (by decide) rfl
          by_cases e0 : l0 = 0
          · have e1 : ¬ l1 = 0 := fun e => hl0 ⟨e0, e⟩
            subst e0
            clear hl0 hbeq
            go_wp2_with fail
            refine (hMy _ _ _ (kegs_app _ _ _ _ _ _ _ _ _ _ _ _ (by simp))).mono ?_
            rintro e w6 ⟨rfl, hb6⟩
            have hz6 := hb6.size
            try simp only [World.size_alloc, World.size_setCell] at hz6
            simp only [World.size_drew, World.size_alloc] at hz6
            have hc6_a := fun o => hb6.cell (p := ⟨w1.heap.size, o, none⟩) (by show w1.heap.size < _; first | omega | (simp only [World.size_alloc, World.size_setCell, World.size_drew]; omega))
            have hf6_a := fun o => hb6.frozen (p := ⟨w1.heap.size, o, none⟩) (by show w1.heap.size < _; first | omega | (simp only [World.size_alloc, World.size_setCell, World.size_drew]; omega))
            have hz6_a : w1.heap.size < w6.heap.size := by omega
            have sa1 : w1.heap.size < wx.heap.size + 1 := by omega
            have sa2 : w1.heap.size < wx.heap.size + 1 + 1 := by omega
            have y0 : w6.cell? ⟨w1.heap.size, 0, none⟩ = some (.int .i64 W) := by rw [hc6_a]; simp [go_sem, a0, sa, sa1, sa2]
            have y1 : w6.cell? ⟨w1.heap.size, 1, none⟩ = some (.int .i64 S) := by rw [hc6_a]; simp [go_sem, a1, sa, sa1, sa2]
            have y2 : w6.cell? ⟨w1.heap.size, 2, none⟩ = some (.int .i64 lt) := by rw [hc6_a]; simp [go_sem, a2, sa, sa1, sa2]
            have y3 : w6.cell? ⟨w1.heap.size, 3, none⟩ = some (.int .i64 fl) := by rw [hc6_a]; simp [go_sem, a3, sa, sa1, sa2]
            go_wp2_with fail
            refine (hK _).mono ?_
            rintro e w7 ⟨rfl, hb7⟩
            have hz7 := hb7.size
            try simp only [World.size_alloc, World.size_setCell] at hz7
            go_wp2
            go_ret
            exact ⟨rfl, (by (try show Below _ _ _); repeat (first | (with_reducible refine Below.setCell ?_ (by first | omega | (simp <;> omega)) _) | (with_reducible refine Below.alloc ?_ (by first | omega | (simp <;> omega)) _) | (with_reducible refine Below.drew ?_) | (with_reducible exact Below.refl _ _) | (with_reducible exact hbG) | (with_reducible refine below_call ?_ (by assumption) (by first | omega | (simp <;> omega))) | (with_reducible refine below_call ?_ (Drew.below (by assumption) _) (by first | omega | (simp <;> omega)))))⟩
          · clear hl0 hbeq
            go_wp2_with fail
            refine (hMy _ _ _ (kegs_app _ _ _ _ _ _ _ _ _ _ _ _ (by simp))).mono ?_
            rintro e w6 ⟨rfl, hb6⟩
            have hz6 := hb6.size
            try simp only [World.size_alloc, World.size_setCell] at hz6
            simp only [World.size_drew, World.size_alloc] at hz6
            have hc6_a := fun o => hb6.cell (p := ⟨w1.heap.size, o, none⟩) (by show w1.heap.size < _; first | omega | (simp only [World.size_alloc, World.size_setCell, World.size_drew]; omega))
            have hf6_a := fun o => hb6.frozen (p := ⟨w1.heap.size, o, none⟩) (by show w1.heap.size < _; first | omega | (simp only [World.size_alloc, World.size_setCell, World.size_drew]; omega))
            have hz6_a : w1.heap.size < w6.heap.size := by omega
            have sa1 : w1.heap.size < wx.heap.size + 1 := by omega
            have sa2 : w1.heap.size < wx.heap.size + 1 + 1 := by omega
            have y0 : w6.cell? ⟨w1.heap.size, 0, none⟩ = some (.int .i64 W) := by rw [hc6_a]; simp [go_sem, a0, sa, sa1, sa2]
            have y1 : w6.cell? ⟨w1.heap.size, 1, none⟩ = some (.int .i64 S) := by rw [hc6_a]; simp [go_sem, a1, sa, sa1, sa2]
            have y2 : w6.cell? ⟨w1.heap.size, 2, none⟩ = some (.int .i64 lt) := by rw [hc6_a]; simp [go_sem, a2, sa, sa1, sa2]
            have y3 : w6.cell? ⟨w1.heap.size, 3, none⟩ = some (.int .i64 fl) := by rw [hc6_a]; simp [go_sem, a3, sa, sa1, sa2]
            go_wp2_with fail
            refine (hK _).mono ?_
            rintro e w7 ⟨rfl, hb7⟩
            have hz7 := hb7.size
            try simp only [World.size_alloc, World.size_setCell] at hz7
            go_wp2
            go_ret
            exact ⟨rfl, (by (try show Below _ _ _); repeat (first | (with_reducible refine Below.setCell ?_ (by first | omega | (simp <;> omega)) _) | (with_reducible refine Below.alloc ?_ (by first | omega | (simp <;> omega)) _) | (with_reducible refine Below.drew ?_) | (with_reducible exact Below.refl _ _) | (with_reducible exact hbG) | (with_reducible refine below_call ?_ (by assumption) (by first | omega | (simp <;> omega))) | (with_reducible refine below_call ?_ (Drew.below (by assumption) _) (by first | omega | (simp <;> omega)))))⟩

end Go.Proofs.Ytgpojnghdhophaa
