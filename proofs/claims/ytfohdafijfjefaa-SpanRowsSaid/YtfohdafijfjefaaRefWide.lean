/- Contracts: reference Widen and Narrow. -/
import Derived.Test.YtfohdafijfjefaaMoved
import Derived.Test.YtfohdafijfjefaaRef1
import Derived.Test.YtfohdafijfjefaaCopy
import Derived.Test.YtfohdafijfjefaaHoldsFn
set_option linter.unusedSimpArgs false
set_option linter.unusedVariables false
namespace Go.Proofs.Ytfohdafijfjefaa
open Go.RowKit Go.Shelf
attribute [local go_sem ↓] Go.wp_at_zero Go.wp_at_succ

/-- behind a list of one's own -/
def OwnPost' (w : World) (xs : List R) (e : Ending) (w' : World) : Prop := ∃ A c, e = .returned (.slice A xs.length c) ∧ Ranges w' w.heap.size A xs ∧ Below w.heap.size w w'

theorem OwnT.below {t : TypeId} {W W' : World} {base B : Nat} {v : Value} {xs : List R} (h : OwnT t W base v xs) (hb : Below B W W') (hB : W.heap.size ≤ B) : OwnT t W' base v xs := by
  have hlt := World.ownsRow.lt h
  refine ⟨h.1, ?_⟩
  rcases h.2 with h0 | ⟨g, cap, cur, hv, hb', hh, h1, h2, h3, h4⟩
  · exact .inl h0
  · refine .inr ⟨g, cap, cur, hv, hb', ?_, h1, h2, h3, h4⟩
    rw [hb.block g (Nat.lt_of_lt_of_le (hlt g (by rw [hv]; rfl)).2 hB)]
    exact hh

theorem setS_apart {xs : List R} (h : setS xs = 0) : ∀ i, i < xs.length → 0 < i → (xs[i - 1]?.getD R.d).hi + 1 < (xs[i]?.getD R.d).lo := by
  unfold setS at h
  by_cases h1 : 200 < xs.length
  · rw [if_pos h1] at h; simp at h
  · rw [if_neg h1] at h
    cases h2 : xs.all okR with
    | false => rw [h2] at h; simp at h
    | true =>
      rw [h2, if_neg (by decide)] at h
      by_cases h3 : apart xs xs.length
      · exact h3
      · rw [if_neg h3] at h; simp at h

theorem addR_apart (acc : List R) (r : R) (h : ∀ m, acc.getLast? = some m → m.hi + 1 < r.lo) : addR acc r = acc ++ [r] := by
  rcases List.eq_nil_or_concat acc with rfl | ⟨ys, m, rfl⟩
  · rfl
  · rw [List.concat_eq_append] at *
    rw [addR_snoc, if_neg]
    have := h m (by simp)
    omega

/-- what narrowing has done by the k-th range -/
theorem narrow_step (xs : List R) (b : Int) (hb : 0 ≤ b ∧ b ≤ 1000000000000000) (hs : setS xs = 0) (k : Nat) (hk : k < xs.length) :
    movedL (-b) (xs.take (k + 1)) = (if (xs[k]?.getD R.d).lo + b ≤ (xs[k]?.getD R.d).hi - b then movedL (-b) (xs.take k) ++ [⟨(xs[k]?.getD R.d).lo + b, (xs[k]?.getD R.d).hi - b⟩] else movedL (-b) (xs.take k)) ∧
    ∀ m, (movedL (-b) (xs.take (k + 1))).getLast? = some m → m.hi ≤ (xs[k]?.getD R.d).hi := by
  obtain ⟨h200, hok⟩ := setS_ok hs
  have hap := setS_apart hs
  induction k with
  | zero =>
    have kx := (okR_iff _).1 (show okR (xs[0]?.getD R.d) = true from by rw [List.getElem?_eq_getElem hk]; exact hok _ (List.getElem_mem _))
    rw [movedL_snoc _ _ _ hk]
    generalize xs[0]?.getD R.d = r at *
    unfold movedStep
    rw [show max (r.lo - -b) (-1000000000000000) = r.lo + b by omega, show min (r.hi + -b) 1000000000000000 = r.hi - b by omega]
    simp only [List.take_zero]
    have e0 : movedL (-b) [] = [] := rfl
    rw [e0]
    split
    · exact ⟨rfl, fun m hm => by simp [addR_nil] at hm; subst hm; simp only; omega⟩
    · exact ⟨rfl, fun m hm => by simp at hm⟩
  | succ k ih =>
    obtain ⟨_, i2⟩ := ih (by omega)
    have kx := (okR_iff _).1 (show okR (xs[k + 1]?.getD R.d) = true from by rw [List.getElem?_eq_getElem hk]; exact hok _ (List.getElem_mem _))
    have kp := hap (k + 1) hk (by omega)
    simp only [Nat.add_sub_cancel] at kp
    rw [movedL_snoc _ _ _ hk]
    generalize xs[k + 1]?.getD R.d = r at *
    generalize movedL (-b) (xs.take (k + 1)) = acc at *
    unfold movedStep
    rw [show max (r.lo - -b) (-1000000000000000) = r.lo + b by omega, show min (r.hi + -b) 1000000000000000 = r.hi - b by omega]
    split
    · rw [addR_apart acc _ (fun m hm => by have := i2 m hm; simp only; omega)]
      exact ⟨rfl, fun m hm => by simp at hm; subst hm; simp only; omega⟩
    · exact ⟨rfl, fun m hm => by have := i2 m hm; omega⟩

/-- what widening has done by the k-th range: the last one ends where the k-th one's widened end is -/
theorem widen_step (xs : List R) (b : Int) (hb : 0 ≤ b ∧ b ≤ 1000000000000000) (hs : setS xs = 0) (k : Nat) (hk : k < xs.length) :
    movedL b (xs.take (k + 1)) = addR (movedL b (xs.take k)) ⟨max (-1000000000000000) ((xs[k]?.getD R.d).lo - b), min 1000000000000000 ((xs[k]?.getD R.d).hi + b)⟩ ∧
    (∀ m, (movedL b (xs.take (k + 1))).getLast? = some m → m.hi = min 1000000000000000 ((xs[k]?.getD R.d).hi + b)) ∧
    (∀ m, (movedL b (xs.take k)).getLast? = some m → m.hi ≤ min 1000000000000000 ((xs[k]?.getD R.d).hi + b)) := by
  obtain ⟨h200, hok⟩ := setS_ok hs
  have hap := setS_apart hs
  induction k with
  | zero =>
    have kx := (okR_iff _).1 (show okR (xs[0]?.getD R.d) = true from by rw [List.getElem?_eq_getElem hk]; exact hok _ (List.getElem_mem _))
    rw [movedL_snoc _ _ _ hk]
    generalize xs[0]?.getD R.d = r at *
    unfold movedStep
    rw [show max (r.lo - b) (-1000000000000000) = max (-1000000000000000) (r.lo - b) by omega, show min (r.hi + b) 1000000000000000 = min 1000000000000000 (r.hi + b) by omega]
    simp only [List.take_zero]
    have e0 : movedL b [] = [] := rfl
    rw [e0, if_pos (by omega)]
    exact ⟨rfl, fun m hm => by simp [addR_nil] at hm; subst hm; rfl, fun m hm => by simp at hm⟩
  | succ k ih =>
    obtain ⟨_, i2, _⟩ := ih (by omega)
    have kx := (okR_iff _).1 (show okR (xs[k + 1]?.getD R.d) = true from by rw [List.getElem?_eq_getElem hk]; exact hok _ (List.getElem_mem _))
    have kp := hap (k + 1) hk (by omega)
    simp only [Nat.add_sub_cancel] at kp
    rw [movedL_snoc _ _ _ hk]
    generalize xs[k + 1]?.getD R.d = r at *
    generalize xs[k]?.getD R.d = q at *
    generalize movedL b (xs.take (k + 1)) = acc at *
    unfold movedStep
    rw [show max (r.lo - b) (-1000000000000000) = max (-1000000000000000) (r.lo - b) by omega, show min (r.hi + b) 1000000000000000 = min 1000000000000000 (r.hi + b) by omega]
    rw [if_pos (by omega)]
    have hle : ∀ m, acc.getLast? = some m → m.hi ≤ min 1000000000000000 (r.hi + b) := fun m hm => by have := i2 m hm; omega
    refine ⟨rfl, fun m hm => ?_, hle⟩
    rcases List.eq_nil_or_concat acc with rfl | ⟨ys, z, rfl⟩
    · rw [addR_nil] at hm; simp at hm; subst hm; rfl
    · rw [List.concat_eq_append] at *
      have hz := hle z (by simp)
      rw [addR_snoc] at hm
      split at hm
      · simp at hm; subst hm; simp only; omega
      · simp at hm; subst hm; rfl

theorem movedL_bd (b : Int) (xs : List R) (k : Nat) (hb : 0 ≤ b ∧ b ≤ 1000000000000000) (hok : ∀ x ∈ xs, okR x = true) (hk : k ≤ xs.length) : ∀ m ∈ movedL b (xs.take k), -1000000000000000 ≤ m.lo ∧ m.lo ≤ 1000000000000000 ∧ -1000000000000000 ≤ m.hi ∧ m.hi ≤ 1000000000000000 := by
  induction k with
  | zero => intro m hm; simp [movedL] at hm
  | succ k ih =>
    have i := ih (by omega)
    have kx := (okR_iff _).1 (show okR (xs[k]?.getD R.d) = true from by rw [List.getElem?_eq_getElem (by omega)]; exact hok _ (List.getElem_mem _))
    rw [movedL_snoc _ _ _ (by omega)]
    generalize xs[k]?.getD R.d = r at *
    generalize movedL b (xs.take k) = acc at *
    unfold movedStep
    split
    · rcases List.eq_nil_or_concat acc with rfl | ⟨ys, z, rfl⟩
      · intro m hm; rw [addR_nil] at hm; simp at hm; subst hm; simp only; omega
      · rw [List.concat_eq_append] at *
        have hz := i z (by simp)
        intro m hm
        rw [addR_snoc] at hm
        split at hm
        · rw [List.mem_append] at hm
          rcases hm with hm | hm
          · exact i m (by simp [hm])
          · simp at hm; subst hm; simp only; omega
        · rw [List.mem_append] at hm
          rcases hm with hm | hm
          · exact i m hm
          · simp at hm; subst hm; simp only; omega
    · exact i

theorem movedL_len (o : Int) (xs : List R) (k : Nat) (hk : k ≤ xs.length) : (movedL o (xs.take k)).length ≤ k := by
  induction k with
  | zero => simp [movedL]
  | succ k ih =>
    rw [movedL_snoc _ _ _ (by omega)]
    have := ih (by omega)
    unfold movedStep
    split
    · have := addR_len (movedL o (xs.take k)) ⟨max ((xs[k]?.getD R.d).lo - o) (-1000000000000000), min ((xs[k]?.getD R.d).hi + o) 1000000000000000⟩
      omega
    · omega

set_option maxRecDepth 100000 in
set_option maxHeartbeats 2000000 in
theorem refNarrow_any (lo : Nat) (A : Option Addr) (n c : Nat) (xs : List R) (b : Int) (w : World) (hx : Ranges w lo A xs) (hn : Aside (xs.length = n)) (hs : Aside (setS xs = 0)) (hb : 0 ≤ b ∧ b ≤ 1000000000000000) :
    Calls Try.prog 48 #[.slice A n c, .int .i64 b] w (OwnPost' w (movedL (-b) xs)) := by
  obtain ⟨h200, hok⟩ := setS_ok hs.out
  rw [hn.out] at h200
  have HX := Lib.hid hx
  have HOK := Lib.hid hok
  generalize hres : movedL (-b) xs = res
  have Hres := Lib.hid hres
  clear hx hok hres
  have ob := World.ownsRow_lit (base := w.heap.size) (e := 23) (size := 2) w #[] 0 (Nat.le_refl _) (by decide) rfl
  have OB := Lib.hid ob
  clear ob
  go_enter Try.func48, Try.ntmps48
  go_wp2
  obtain ⟨i5, hi5, hz5, hs5, hb5⟩ := info_parts infoRange
  go_loopg [5, 6] (n) (fun gg s5 i wr => ∃ (k g c5 m : Nat), k ≤ n ∧ n - k ≤ gg ∧ i = .int .i64 k ∧ s5 = .slice (some ⟨g, 0, none⟩) m c5 ∧ m ≤ k ∧ Aside ((movedL (-b) (xs.take k)).length = m) ∧ Aside (wr.ownsRow w.heap.size 23 2 (.slice (some ⟨g, 0, none⟩) m c5) m ((movedL (-b) (xs.take k)).flatMap rCs)) ∧ Aside (Below w.heap.size w wr))
  case atStart => exact ⟨0, w.heap.size, 0, 0, Nat.zero_le _, Nat.le_refl _, rfl, rfl, Nat.le_refl _, rfl, OB.out, (by (try show Below _ _ _); repeat (first | (with_reducible refine Below.setCell ?_ (by first | omega | (simp <;> omega)) _) | (with_reducible refine Below.alloc ?_ (by first | omega | (simp <;> omega)) _) | (with_reducible refine Below.drew ?_) | (with_reducible exact Below.refl _ _) | (with_reducible refine below_call ?_ (by assumption) (by first | omega | (simp <;> omega))) | (with_reducible refine below_call ?_ (Drew.below (by assumption) _) (by first | omega | (simp <;> omega)))))⟩
  case round =>
    obtain ⟨k, g, c5, m, hk, hg, rfl, rfl, hmk, hm, hO, hB⟩ := hrel
    have hbs := hB.out.size
    by_cases hlt : k < n
    · obtain ⟨bb, o, rfl, _, hlb, hc⟩ := HX.out (by have := hn.out; omega)
      have x0 := (hB.out.cell (p := ⟨bb, o + k * 2 + 0, none⟩) hlb).trans (hc k 0 (by have := hn.out; omega) (by omega))
      have x1 := (hB.out.cell (p := ⟨bb, o + k * 2 + 1, none⟩) hlb).trans (hc k 1 (by have := hn.out; omega) (by omega))
      have hbw : bb < wr.heap.size := by omega
      obtain ⟨hsn, -⟩ := narrow_step xs b hb hs.out k (by have := hn.out; omega)
      have okk := (okR_iff _).1 (HOK.out (xs[k]?.getD R.d) (by rw [List.getElem?_eq_getElem (by have := hn.out; omega)]; exact List.getElem_mem _))
      clear hc
      generalize xs[k]?.getD R.d = r at x0 x1 hsn okk
      obtain ⟨r0, r1⟩ := r
      simp only [R.cell, Nat.add_zero, if_true, Nat.one_ne_zero, if_false] at x0 x1 hsn okk
      generalize movedL (-b) (xs.take k) = acc at hsn hm hO
      have Hsn := Lib.hid hsn
      clear hsn
      have hltz : (k : Int) < (n : Int) := by omega
      have hk0 : (0 : Int) ≤ (k : Int) := by omega
      have w1 : IntKind.i64.wrap (r0 + b) = r0 + b := by rw [IntKind.wrap_i64]; omega
      have w2 : IntKind.i64.wrap (r1 - b) = r1 - b := by rw [IntKind.wrap_i64]; omega
      by_cases hle : r0 + b ≤ r1 - b
      · go_wp2_with fail
        go_quiet (fail)
        generalize hq : World.drewN wr _ = wd
        have hD : Below wr.heap.size wr wd := drawnB hq
        clear hq
        have y0 := (hD.cell (p := ⟨bb, o + k * 2, none⟩) hbw).trans x0
        have y1 := (hD.cell (p := ⟨bb, o + k * 2 + 1, none⟩) hbw).trans x1
        have hOd : wd.ownsRow w.heap.size 23 2 (.slice (some ⟨g, 0, none⟩) m c5) m (acc.flatMap rCs) := by
          have := OwnT.below (t := 23) (xs := acc) (v := .slice (some ⟨g, 0, none⟩) m c5) (base := w.heap.size) (by unfold OwnT; rw [hm.out]; exact hO.out) hD (Nat.le_refl _)
          unfold OwnT at this
          rw [hm.out] at this
          exact this
        have HBd : Below w.heap.size w wd := hB.out.trans (hD.mono (by omega))
        have hzd := hD.size
        have hbwd : bb < wd.heap.size := by omega
        have hne : ∀ q, (Value.slice (some ⟨g, 0, none⟩) m c5).ownBlock = some q → w.heap.size ≤ q ∧ q < wd.heap.size := hOd.lt
        clear hO x0 x1
        go_wp2_with fail
        go_region_law ((refine step_append_lies _ (by rfl) _ _ _ (by rfl) w.heap.size 23 i5 _ 2 16 Try.underlying53 hi5 hz5 hs5 hb5 rfl (by omega) (.slice (some ⟨g, 0, none⟩) m c5) m (acc.flatMap rCs) (by rfl) (by first | exact (hOd.alloc _).drew | exact hOd.alloc _) ⟨wd.heap.size, 0, none⟩ 1 1 [.int .i64 (r0 + b), .int .i64 (r1 - b)] (by rfl) (by rfl) (news_two (by simp [go_sem]) (by simp [go_sem])) (by simp [Value.oneCell']) (by omega) (by simp only [maxLen]; omega) (by omega) (by simp; omega) (wd.heap.size + 1) (by simp) ?_; intro g3 c3 w3 o3 hgrow hat3 hlt3))
        all_goals
          have hbA : Below w.heap.size w w3 := Below.grown ((by (try show Below _ _ _); repeat (first | (with_reducible refine Below.setCell ?_ (by first | omega | (simp <;> omega)) _) | (with_reducible refine Below.alloc ?_ (by first | omega | (simp <;> omega)) _) | (with_reducible refine Below.drew ?_) | (with_reducible exact Below.refl _ _) | (with_reducible exact HBd) | (with_reducible refine below_call ?_ (by assumption) (by first | omega | (simp <;> omega))) | (with_reducible refine below_call ?_ (Drew.below (by assumption) _) (by first | omega | (simp <;> omega)))))) hgrow (by simp; omega) (fun q e => (hne q e).1)
          go_wp2
          go_roundg (n - (k + 1))
          case measure => omega
          case rel =>
            refine ⟨k + 1, g3, c3, m + 1, by omega, by omega, by go_num, rfl, by omega, ?_, ?_, hbA⟩
            · exact (show _ = _ from by rw [Hsn.out, if_pos hle, List.length_append, hm.out]; rfl)
            · rw [Hsn.out, if_pos hle, List.flatMap_append]; exact o3
      · go_wp2_with fail
        go_quiet (fail)
        generalize hq : World.drewN wr _ = wd
        have hD : Below wr.heap.size wr wd := drawnB hq
        clear hq
        have hOd : wd.ownsRow w.heap.size 23 2 (.slice (some ⟨g, 0, none⟩) m c5) m (acc.flatMap rCs) := by
          have := OwnT.below (t := 23) (xs := acc) (v := .slice (some ⟨g, 0, none⟩) m c5) (base := w.heap.size) (by unfold OwnT; rw [hm.out]; exact hO.out) hD (Nat.le_refl _)
          unfold OwnT at this
          rw [hm.out] at this
          exact this
        have HBd : Below w.heap.size w wd := hB.out.trans (hD.mono (by omega))
        have HOd := Lib.hid hOd
        clear hO x0 x1 hOd
        go_wp2
        go_roundg (n - (k + 1))
        case measure => omega
        case rel =>
          refine ⟨k + 1, g, c5, m, by omega, by omega, by go_num, rfl, by omega, ?_, ?_, HBd⟩
          · rw [Hsn.out, if_neg (show ¬ (r0 + b ≤ r1 - b) by omega)]; exact hm.out
          · rw [Hsn.out, if_neg (show ¬ (r0 + b ≤ r1 - b) by omega)]; exact HOd.out
    · have hltz : ¬ (k : Int) < (n : Int) := by omega
      have hke : k = n := by omega
      subst hke
      have htk : xs.take k = xs := List.take_of_length_le (by have := hn.out; omega)
      rw [htk, Hres.out] at hO hm
      obtain ⟨A', c', e1, e2, e3, e4⟩ := OwnT.reads (xs := res) (t := 23) (base := w.heap.size) (v := .slice (some ⟨g, 0, none⟩) m c5) (by unfold OwnT; rw [hm.out]; exact hO.out)
      rw [hm.out] at e1
      injection e1 with e5 e6 e7
      subst e5
      have E4 := Lib.hid e4
      have Hm := Lib.hid hm.out
      clear htk hO hm e4
      go_wp2
      go_ret
      exact ⟨_, c', by rw [Hm.out]; rfl, E4.out, hB.out⟩

set_option maxRecDepth 100000 in
set_option maxHeartbeats 4000000 in
theorem refWiden_any (lo : Nat) (A : Option Addr) (n c : Nat) (xs : List R) (b : Int) (w : World) (hx : Ranges w lo A xs) (hn : Aside (xs.length = n)) (hs : Aside (setS xs = 0)) (hb : 0 ≤ b ∧ b ≤ 1000000000000000) :
    Calls Try.prog 47 #[.slice A n c, .int .i64 b] w (OwnPost' w (movedL b xs)) := by
  obtain ⟨h200, hok⟩ := setS_ok hs.out
  rw [hn.out] at h200
  have HX := Lib.hid hx
  have HOK := Lib.hid hok
  generalize hres : movedL b xs = res
  have Hres := Lib.hid hres
  clear hx hok hres
  have ob := World.ownsRow_lit (base := w.heap.size) (e := 23) (size := 2) w #[] 0 (Nat.le_refl _) (by decide) rfl
  have OB := Lib.hid ob
  clear ob
  go_enter Try.func47, Try.ntmps47
  go_wp2
  obtain ⟨i5, hi5, hz5, hs5, hb5⟩ := info_parts infoRange
  go_loopg [5, 6] (n) (fun gg s5 i wr => ∃ (k g c5 m : Nat), k ≤ n ∧ n - k ≤ gg ∧ i = .int .i64 k ∧ s5 = .slice (some ⟨g, 0, none⟩) m c5 ∧ m ≤ k ∧ Aside ((movedL b (xs.take k)).length = m) ∧ Aside (wr.ownsRow w.heap.size 23 2 (.slice (some ⟨g, 0, none⟩) m c5) m ((movedL b (xs.take k)).flatMap rCs)) ∧ Aside (Below w.heap.size w wr))
  case atStart => exact ⟨0, w.heap.size, 0, 0, Nat.zero_le _, Nat.le_refl _, rfl, rfl, Nat.le_refl _, rfl, OB.out, (by (try show Below _ _ _); repeat (first | (with_reducible refine Below.setCell ?_ (by first | omega | (simp <;> omega)) _) | (with_reducible refine Below.alloc ?_ (by first | omega | (simp <;> omega)) _) | (with_reducible refine Below.drew ?_) | (with_reducible exact Below.refl _ _) | (with_reducible refine below_call ?_ (by assumption) (by first | omega | (simp <;> omega))) | (with_reducible refine below_call ?_ (Drew.below (by assumption) _) (by first | omega | (simp <;> omega)))))⟩
  case round =>
    obtain ⟨k, g, c5, m, hk, hg, rfl, rfl, hmk, hm, hO, hB⟩ := hrel
    have hbs := hB.out.size
    by_cases hlt : k < n
    · obtain ⟨bb, o, rfl, _, hlb, hc⟩ := HX.out (by have := hn.out; omega)
      have x0 := (hB.out.cell (p := ⟨bb, o + k * 2 + 0, none⟩) hlb).trans (hc k 0 (by have := hn.out; omega) (by omega))
      have x1 := (hB.out.cell (p := ⟨bb, o + k * 2 + 1, none⟩) hlb).trans (hc k 1 (by have := hn.out; omega) (by omega))
      have hbw : bb < wr.heap.size := by omega
      obtain ⟨hsn, -, hlast⟩ := widen_step xs b hb hs.out k (by have := hn.out; omega)
      have okk := (okR_iff _).1 (HOK.out (xs[k]?.getD R.d) (by rw [List.getElem?_eq_getElem (by have := hn.out; omega)]; exact List.getElem_mem _))
      have hbd := movedL_bd b xs k hb HOK.out (by have := hn.out; omega)
      clear hc
      generalize xs[k]?.getD R.d = r at x0 x1 hsn okk hlast
      obtain ⟨r0, r1⟩ := r
      simp only [R.cell, Nat.add_zero, if_true, Nat.one_ne_zero, if_false] at x0 x1 hsn okk hlast
      generalize movedL b (xs.take k) = acc at hsn hm hO hlast hbd
      have Hsn := Lib.hid hsn
      have Hlast := Lib.hid hlast
      have Hbd := Lib.hid hbd
      clear hsn hlast hbd
      have hltz : (k : Int) < (n : Int) := by omega
      have hk0 : (0 : Int) ≤ (k : Int) := by omega
      have w1 : IntKind.i64.wrap (r0 - b) = r0 - b := by rw [IntKind.wrap_i64]; omega
      have w2 : IntKind.i64.wrap (r1 + b) = r1 + b := by rw [IntKind.wrap_i64]; omega
      go_upto_region 5 with (fail)
      go_cut [7] (fun s7 wx => s7 = .pointer (some ⟨wr.heap.size, 0, none⟩) ∧ Aside (Below wr.heap.size wr wx ∧ wr.heap.size < wx.heap.size ∧ wx.cell? ⟨wr.heap.size, 0, none⟩ = some (.int .i64 (max (-1000000000000000) (r0 - b))) ∧ wx.cell? ⟨wr.heap.size, 1, none⟩ = some (.int .i64 (min 1000000000000000 (r1 + b)))))
      case first =>
        go_region_held3 (fun w' => w'.cell? ⟨bb, o + k * 2, none⟩ = some (.int .i64 r0) ∧ w'.cell? ⟨bb, o + k * 2 + 1, none⟩ = some (.int .i64 r1)) (go_keep) (fail)
        all_goals
          go_wp2_with fail
          go_meet
          exact ⟨rfl, (by (try show Below _ _ _); repeat (first | (with_reducible refine Below.setCell ?_ (by first | omega | (simp <;> omega)) _) | (with_reducible refine Below.alloc ?_ (by first | omega | (simp <;> omega)) _) | (with_reducible refine Below.drew ?_) | (with_reducible exact Below.refl _ _) | (with_reducible refine below_call ?_ (by assumption) (by first | omega | (simp <;> omega))) | (with_reducible refine below_call ?_ (Drew.below (by assumption) _) (by first | omega | (simp <;> omega))))), (by simp), (by simp [go_sem]), (by simp [go_sem])⟩
      case rest =>
        obtain ⟨rfl, I2⟩ := hcut
        obtain ⟨wx, hwx, I3⟩ : ∃ wx, wx = _ ∧ (Below wr.heap.size wr wx ∧ wr.heap.size < wx.heap.size ∧ wx.cell? ⟨wr.heap.size, 0, none⟩ = some (.int .i64 (max (-1000000000000000) (r0 - b))) ∧ wx.cell? ⟨wr.heap.size, 1, none⟩ = some (.int .i64 (min 1000000000000000 (r1 + b)))) := ⟨_, rfl, I2.out⟩
        subst hwx
        clear I2
        obtain ⟨hbw', hzw, e0, e1⟩ := I3
        have hOx : wx.ownsRow w.heap.size 23 2 (.slice (some ⟨g, 0, none⟩) m c5) m (acc.flatMap rCs) := by
          have := OwnT.below (t := 23) (xs := acc) (v := .slice (some ⟨g, 0, none⟩) m c5) (base := w.heap.size) (by unfold OwnT; rw [hm.out]; exact hO.out) hbw' (Nat.le_refl _)
          unfold OwnT at this
          rw [hm.out] at this
          exact this
        have HBx : Below w.heap.size w wx := hB.out.trans (hbw'.mono (by omega))
        have hzx := hbw'.size
        have hlo : -1000000000000000 ≤ max (-1000000000000000) (r0 - b) ∧ max (-1000000000000000) (r0 - b) ≤ 1000000000000000 := by omega
        have hhi : -1000000000000000 ≤ min 1000000000000000 (r1 + b) ∧ min 1000000000000000 (r1 + b) ≤ 1000000000000000 := by omega
        generalize max (-1000000000000000) (r0 - b) = LO at *
        generalize min 1000000000000000 (r1 + b) = HI at *
        have hwg := hO.out.lt
        clear hO x0 x1 w1 w2
        rcases List.eq_nil_or_concat acc with rfl | ⟨ys, l, rfl⟩
        · obtain rfl : m = 0 := hm.out.symm
          have HOx := Lib.hid hOx
          clear hOx
          go_wp2_with fail
          go_quiet (fail)
          generalize hq : World.drewN wx _ = wd
          have hD : Below wx.heap.size wx wd := drawnB hq
          clear hq
          have y0 := (hD.cell (p := ⟨wr.heap.size, 0, none⟩) hzw).trans e0
          have y1 := (hD.cell (p := ⟨wr.heap.size, 1, none⟩) hzw).trans e1
          have hOd : wd.ownsRow w.heap.size 23 2 (.slice (some ⟨g, 0, none⟩) 0 c5) 0 ((([] : List R)).flatMap rCs) := by
            have := OwnT.below (t := 23) (xs := ([] : List R)) (v := .slice (some ⟨g, 0, none⟩) 0 c5) (base := w.heap.size) (by unfold OwnT; rw [hm.out]; exact HOx.out) hD (Nat.le_refl _)
            unfold OwnT at this
            rw [hm.out] at this
            exact this
          have HBd : Below w.heap.size w wd := HBx.trans (hD.mono (by omega))
          have hzd := hD.size
          have hne : ∀ q, (Value.slice (some ⟨g, 0, none⟩) 0 c5).ownBlock = some q → w.heap.size ≤ q ∧ q < wd.heap.size := hOd.lt
          have hzw' : wr.heap.size < wd.heap.size := by omega
          clear e0 e1 hD
          go_wp2_with (at_builtin; (refine wpList_append_lies _ rfl _ _ _ (by rfl) w.heap.size 23 i5 _ 2 16 Try.underlying53 hi5 hz5 hs5 hb5 rfl (by omega) (.slice (some ⟨g, 0, none⟩) 0 c5) 0 ((([] : List R)).flatMap rCs) (by rfl) (hOd.alloc _) ⟨wd.heap.size, 0, none⟩ 1 1 [.int .i64 LO, .int .i64 HI] (by rfl) (by rfl) (news_two (by simp [go_sem]) (by simp [go_sem])) (by simp [Value.oneCell']) (by omega) (by simp only [maxLen]; omega) (by omega) (by simp; omega) (wd.heap.size + 1) (by simp) ?_); intro g3 c3 w3 o3 hgrow hat3 hlt3)
          have hbA : Below w.heap.size w w3 := Below.grown ((by (try show Below _ _ _); repeat (first | (with_reducible refine Below.setCell ?_ (by first | omega | (simp <;> omega)) _) | (with_reducible refine Below.alloc ?_ (by first | omega | (simp <;> omega)) _) | (with_reducible refine Below.drew ?_) | (with_reducible exact Below.refl _ _) | (with_reducible exact HBd) | (with_reducible refine below_call ?_ (by assumption) (by first | omega | (simp <;> omega))) | (with_reducible refine below_call ?_ (Drew.below (by assumption) _) (by first | omega | (simp <;> omega)))))) hgrow (by simp; omega) (fun q e => (hne q e).1)
          have HEQ : addR (([] : List R)) ⟨LO, HI⟩ = (([] : List R)) ++ [⟨LO, HI⟩] := rfl
          have HEQ' := Lib.hid HEQ
          have HO3 := Lib.hid o3
          clear o3 HEQ hgrow hOd hne
          go_wp2
          go_roundg (n - (k + 1))
          case measure => omega
          case rel =>
            refine ⟨k + 1, g3, c3, 0 + 1, by omega, by omega, by go_num, by go_num, by omega, ?_, ?_, hbA⟩
            · exact (show _ = _ from by rw [Hsn.out, HEQ'.out, List.length_append, hm.out]; rfl)
            · rw [Hsn.out, HEQ'.out, List.flatMap_append]; exact HO3.out
        · rw [List.concat_eq_append] at *
          obtain ⟨l0, l1⟩ := l
          have hlx := Hlast.out ⟨l0, l1⟩ (by simp)
          have hbl := Hbd.out ⟨l0, l1⟩ (by simp)
          simp only at hlx hbl
          have hml : m = ys.length + 1 := by have := hm.out; simp at this; omega
          subst hml
          have hc1 : wx.cell? ⟨g, ys.length * 2 + 1, none⟩ = some (.int .i64 l1) := by
            have := hOx.cellAt (ys.length * 2 + 1) (by omega)
            rw [rCs_at _ ys.length 1 (by simp) (by omega)] at this
            simpa [R.cell] using this
          have hf1 : wx.frozen? ⟨g, ys.length * 2 + 1, none⟩ = false := by
            have := hOx.frozenAt (ys.length * 2 + 1)
            simpa using this
          have HOx := Lib.hid hOx
          have hgw := (hwg g rfl).2
          have hmz : (0 : Int) < ((ys.length : Int) + 1) := by omega
          have hmz2 : (0 : Int) ≤ (ys.length : Int) := by omega
          have hwl : IntKind.i64.wrap (l1 + 1) = l1 + 1 := by rw [IntKind.wrap_i64]; omega
          have hgx : g < wx.heap.size := by omega
          clear hOx
          by_cases hmer : LO ≤ l1 + 1
          · go_wp2_with fail
            go_quiet (fail)
            generalize hq : World.drewN wx _ = wd
            have hD : Below wx.heap.size wx wd := drawnB hq
            clear hq
            have y0 := (hD.cell (p := ⟨wr.heap.size, 0, none⟩) hzw).trans e0
            have y1 := (hD.cell (p := ⟨wr.heap.size, 1, none⟩) hzw).trans e1
            have y2 := (hD.cell (p := ⟨g, ys.length * 2 + 1, none⟩) hgx).trans hc1
            have y3 := (hD.frozen (p := ⟨g, ys.length * 2 + 1, none⟩) hgx).trans hf1
            have HBd : Below w.heap.size w wd := HBx.trans (hD.mono (by omega))
            have hOd : OwnR wd w.heap.size (.slice (some ⟨g, 0, none⟩) (ys.length + 1) c5) (ys ++ [⟨l0, l1⟩]) := by
              refine OwnR.below (W := wx) ?_ hD (Nat.le_refl _)
              unfold OwnR
              rw [show (ys ++ [(⟨l0, l1⟩ : R)]).length = ys.length + 1 by simp]
              exact HOx.out
            have HOd := Lib.hid hOd
            have hgb := (hwg g rfl).1
            have hzd := hD.size
            clear e0 e1 hc1 hf1 hD hOd
            go_wp2
            go_roundg (n - (k + 1))
            case measure => omega
            case rel =>
              refine ⟨k + 1, g, c5, ys.length + 1, by omega, by omega, by go_num, by go_num, by omega, ?_, ?_, (by (try show Below _ _ _); repeat (first | (with_reducible refine Below.setCell ?_ (by first | omega | (simp <;> omega)) _) | (with_reducible refine Below.alloc ?_ (by first | omega | (simp <;> omega)) _) | (with_reducible refine Below.drew ?_) | (with_reducible exact Below.refl _ _) | (with_reducible exact HBd) | (with_reducible refine below_call ?_ (by assumption) (by first | omega | (simp <;> omega))) | (with_reducible refine below_call ?_ (Drew.below (by assumption) _) (by first | omega | (simp <;> omega)))))⟩
              · exact (show _ = _ from by rw [Hsn.out, addR_snoc, if_pos hmer]; simp)
              · rw [Hsn.out, addR_snoc, if_pos hmer]
                have o2 := HOd.out
                unfold OwnR at o2
                rw [show (ys ++ [(⟨l0, l1⟩ : R)]).length = ys.length + 1 by simp] at o2
                have o3 := (o2.stored (ys.length * 2 + 1) (.int .i64 HI)).1
                rw [rCs_set _ _ _ _ _ rfl] at o3
                rw [show max l1 HI = HI by omega]
                exact o3
          · have hmn : l1 + 1 < LO := by omega
            go_wp2_with fail
            go_quiet (fail)
            generalize hq : World.drewN wx _ = wd
            have hD : Below wx.heap.size wx wd := drawnB hq
            clear hq
            have y0 := (hD.cell (p := ⟨wr.heap.size, 0, none⟩) hzw).trans e0
            have y1 := (hD.cell (p := ⟨wr.heap.size, 1, none⟩) hzw).trans e1
            have hOd : wd.ownsRow w.heap.size 23 2 (.slice (some ⟨g, 0, none⟩) (ys.length + 1) c5) (ys.length + 1) (((ys ++ [(⟨l0, l1⟩ : R)])).flatMap rCs) := by
              have := OwnT.below (t := 23) (xs := (ys ++ [(⟨l0, l1⟩ : R)])) (v := .slice (some ⟨g, 0, none⟩) (ys.length + 1) c5) (base := w.heap.size) (by unfold OwnT; rw [hm.out]; exact HOx.out) hD (Nat.le_refl _)
              unfold OwnT at this
              rw [hm.out] at this
              exact this
            have HBd : Below w.heap.size w wd := HBx.trans (hD.mono (by omega))
            have hzd := hD.size
            have hne : ∀ q, (Value.slice (some ⟨g, 0, none⟩) (ys.length + 1) c5).ownBlock = some q → w.heap.size ≤ q ∧ q < wd.heap.size := hOd.lt
            have hzw' : wr.heap.size < wd.heap.size := by omega
            clear e0 e1 hD
            go_wp2_with (at_builtin; (refine wpList_append_lies _ rfl _ _ _ (by rfl) w.heap.size 23 i5 _ 2 16 Try.underlying53 hi5 hz5 hs5 hb5 rfl (by omega) (.slice (some ⟨g, 0, none⟩) (ys.length + 1) c5) (ys.length + 1) (((ys ++ [(⟨l0, l1⟩ : R)])).flatMap rCs) (by rfl) (hOd.alloc _) ⟨wd.heap.size, 0, none⟩ 1 1 [.int .i64 LO, .int .i64 HI] (by rfl) (by rfl) (news_two (by simp [go_sem]) (by simp [go_sem])) (by simp [Value.oneCell']) (by omega) (by simp only [maxLen]; omega) (by omega) (by simp; omega) (wd.heap.size + 1) (by simp) ?_); intro g3 c3 w3 o3 hgrow hat3 hlt3)
            have hbA : Below w.heap.size w w3 := Below.grown ((by (try show Below _ _ _); repeat (first | (with_reducible refine Below.setCell ?_ (by first | omega | (simp <;> omega)) _) | (with_reducible refine Below.alloc ?_ (by first | omega | (simp <;> omega)) _) | (with_reducible refine Below.drew ?_) | (with_reducible exact Below.refl _ _) | (with_reducible exact HBd) | (with_reducible refine below_call ?_ (by assumption) (by first | omega | (simp <;> omega))) | (with_reducible refine below_call ?_ (Drew.below (by assumption) _) (by first | omega | (simp <;> omega)))))) hgrow (by simp; omega) (fun q e => (hne q e).1)
            have HEQ : addR ((ys ++ [(⟨l0, l1⟩ : R)])) ⟨LO, HI⟩ = ((ys ++ [(⟨l0, l1⟩ : R)])) ++ [⟨LO, HI⟩] := (by rw [addR_snoc, if_neg (show ¬ LO ≤ l1 + 1 by omega)])
            have HEQ' := Lib.hid HEQ
            have HO3 := Lib.hid o3
            clear o3 HEQ hgrow hOd hne
            go_wp2
            go_roundg (n - (k + 1))
            case measure => omega
            case rel =>
              refine ⟨k + 1, g3, c3, (ys.length + 1) + 1, by omega, by omega, by go_num, by go_num, by omega, ?_, ?_, hbA⟩
              · exact (show _ = _ from by rw [Hsn.out, HEQ'.out, List.length_append, hm.out]; rfl)
              · rw [Hsn.out, HEQ'.out, List.flatMap_append]; exact HO3.out
    · have hltz : ¬ (k : Int) < (n : Int) := by omega
      have hke : k = n := by omega
      subst hke
      have htk : xs.take k = xs := List.take_of_length_le (by have := hn.out; omega)
      rw [htk, Hres.out] at hO hm
      obtain ⟨A', c', e1, e2, e3, e4⟩ := OwnT.reads (xs := res) (t := 23) (base := w.heap.size) (v := .slice (some ⟨g, 0, none⟩) m c5) (by unfold OwnT; rw [hm.out]; exact hO.out)
      rw [hm.out] at e1
      injection e1 with e5 e6 e7
      subst e5
      have E4 := Lib.hid e4
      have Hm := Lib.hid hm.out
      clear htk hO hm e4
      go_wp2
      go_ret
      exact ⟨_, c', by rw [Hm.out]; rfl, E4.out, hB.out⟩

end Go.Proofs.Ytfohdafijfjefaa
