/- Contracts: Gives. -/
import Derived.Test.YtlkecgjpmnganaaThCheck
import Derived.Test.YtlkecgjpmnganaaThAll
import Derived.Test.YtlkecgjpmnganaaThSum
import Derived.Test.YtlkecgjpmnganaaThOwn
set_option linter.unusedSimpArgs false
set_option linter.unusedVariables false
namespace Go.Proofs.Ytlkecgjpmnganaa
open Go.RowKit Go.Shelf


def okG (g : Gp) : Bool := btw 0 1000 [g.taps] && (decide (g.lo ≤ g.hi) && btw 0 10000 [g.lo, g.hi])
def giveLo (r : TR) (g : Gp) : Int := g.taps * r.rlow * (10000 + r.pull * g.lo)
def giveHi (r : TR) (g : Gp) : Int := g.taps * r.rhigh * (10000 + r.pull * g.hi)
def giveR (r : TR) (g : Gp) : R := ⟨giveLo r g / 10000, (giveHi r g + 10000 - 1) / 10000⟩
def errG (r : TR) (gs : List Gp) : Int := if okRules r then (if 60 < gs.length then 5 else if gs.all okG then 0 else 2) else 2

theorem okG_iff (g : Gp) : okG g = true ↔ (0 ≤ g.taps ∧ g.taps ≤ 1000) ∧ 0 ≤ g.lo ∧ g.lo ≤ g.hi ∧ g.hi ≤ 10000 := by
  simp [okG, btw]; omega

/-- bounds of the products -/
theorem give_bd {t p a v : Int} (h1 : 0 ≤ t) (h2 : t ≤ 1000) (h3 : 0 ≤ a) (h4 : a ≤ 100000) (h5 : 0 ≤ p) (h6 : p ≤ 100) (h7 : 0 ≤ v) (h8 : v ≤ 10000) :
    0 ≤ t * a ∧ t * a ≤ 100000000 ∧ 0 ≤ p * v ∧ p * v ≤ 1000000 ∧ 0 ≤ t * a * (10000 + p * v) ∧ t * a * (10000 + p * v) ≤ 101000000000000 := by
  have k1 := Int.mul_nonneg h1 h3
  have k2 : t * a ≤ 1000 * 100000 := Int.mul_le_mul h2 h4 h3 (by omega)
  have k3 := Int.mul_nonneg h5 h7
  have k4 : p * v ≤ 100 * 10000 := Int.mul_le_mul h6 h8 h7 (by omega)
  have k5 : 0 ≤ t * a * (10000 + p * v) := Int.mul_nonneg k1 (by omega)
  have k6 : t * a * (10000 + p * v) ≤ 100000000 * 1010000 := Int.mul_le_mul (by omega) (by omega) (by omega) (by omega)
  refine ⟨k1, by omega, k3, by omega, k5, by omega⟩

theorem giveR_ok {r : TR} (hr : TROk r) {g : Gp} (hg : okG g = true) : 0 ≤ (giveR r g).lo ∧ (giveR r g).lo ≤ (giveR r g).hi ∧ (giveR r g).hi ≤ 10100000000 := by
  obtain ⟨⟨h1, h2⟩, h3, h4, h5⟩ := (okG_iff g).1 hg
  have r1 := hr.r1; have r2 := hr.r2; have r3 := hr.r3; have p1 := hr.p1; have p2 := hr.p2
  have a := give_bd h1 h2 r1 (by omega) p1 p2 h3 (by omega)
  have b := give_bd h1 h2 (show 0 ≤ r.rhigh by omega) r3 p1 p2 (show 0 ≤ g.hi by omega) h5
  have k1 : g.taps * r.rlow ≤ g.taps * r.rhigh := Int.mul_le_mul_of_nonneg_left r2 h1
  have k2 : r.pull * g.lo ≤ r.pull * g.hi := Int.mul_le_mul_of_nonneg_left h4 p1
  have k3 : g.taps * r.rlow * (10000 + r.pull * g.lo) ≤ g.taps * r.rhigh * (10000 + r.pull * g.hi) := Int.mul_le_mul k1 (by omega) (by omega) (by omega)
  unfold giveR giveLo giveHi
  dsimp only
  omega

/-- behind Gives -/
def GivesPost (w : World) (er : Int) (x : R) (e : Ending) (w' : World) : Prop := e = .returned (.tuple #[.agg #[.int .i64 x.lo, .int .i64 x.hi], .int .i64 er]) ∧ Below w.heap.size w w'

theorem infoRange : (Try.prog.info? 23).map (fun i => (i.zero, i.size, i.bytes)) = some (some (.agg #[.int .i64 0, .int .i64 0]), 2, 16) := by kernel_rfl
theorem news_two' {W : World} {b : Nat} {u v : Value} (h0 : W.cell? ⟨b, 0, none⟩ = some u) (h1 : W.cell? ⟨b, 1, none⟩ = some v) : ∀ j x, [u, v][j]? = some x → W.cell? ((⟨b, 0, none⟩ : Addr).add j) = some x := by
  intro j x hx
  have hj : j < 2 := by have := (List.getElem?_eq_some_iff.1 hx).1; simpa using this
  have : j = 0 ∨ j = 1 := by omega
  rcases this with rfl | rfl
  · obtain rfl : u = x := by simpa using hx
    rw [Addr.add_zero']; exact h0
  · obtain rfl : v = x := by simpa using hx
    exact h1

/-- the sum up to the k-th -/
theorem sum_ok {r : TR} (hr : TROk r) (gs : List Gp) (hall : ∀ g ∈ gs, okG g = true) (h60 : gs.length ≤ 60) : sumS (gs.map (giveR r)) = (sumR (gs.map (giveR r)), 0) := by
  have hb : ∀ l : List Gp, (∀ g ∈ l, okG g = true) → 0 ≤ (sumR (l.map (giveR r))).lo ∧ (sumR (l.map (giveR r))).lo ≤ (sumR (l.map (giveR r))).hi ∧ (sumR (l.map (giveR r))).hi ≤ 10100000000 * l.length := by
    have key : ∀ (l : List Gp) (s : R), (∀ g ∈ l, okG g = true) → 0 ≤ s.lo → s.lo ≤ s.hi → 0 ≤ ((l.map (giveR r)).foldl (fun s x => (⟨s.lo + x.lo, s.hi + x.hi⟩ : R)) s).lo ∧ ((l.map (giveR r)).foldl (fun s x => (⟨s.lo + x.lo, s.hi + x.hi⟩ : R)) s).lo ≤ ((l.map (giveR r)).foldl (fun s x => (⟨s.lo + x.lo, s.hi + x.hi⟩ : R)) s).hi ∧ ((l.map (giveR r)).foldl (fun s x => (⟨s.lo + x.lo, s.hi + x.hi⟩ : R)) s).hi ≤ s.hi + 10100000000 * l.length := by
      intro l
      induction l with
      | nil => intro s _ h1 h2; simp; omega
      | cons g l ih =>
        intro s h h1 h2
        have hg := giveR_ok hr (h g (by simp))
        have := ih ⟨s.lo + (giveR r g).lo, s.hi + (giveR r g).hi⟩ (fun x hx => h x (List.mem_cons_of_mem _ hx)) (by show 0 ≤ s.lo + _; omega) (by show s.lo + _ ≤ s.hi + _; omega)
        simp only [List.map_cons, List.foldl_cons, List.length_cons]
        refine ⟨this.1, this.2.1, ?_⟩
        have h3 := this.2.2
        simp only at h3
        push_cast
        omega
    intro l hl
    have := key l ⟨0, 0⟩ hl (by simp) (by simp)
    simpa [sumR] using this
  have h1 := hb gs hall
  have hc : checkS (gs.map (giveR r)) = 0 := by
    unfold checkS
    rw [if_neg (by simp; omega), if_pos]
    rw [List.all_eq_true]
    intro x hx
    obtain ⟨g, hg, rfl⟩ := List.mem_map.1 hx
    have := giveR_ok hr (hall g hg)
    rw [okR_iff]
    omega
  unfold sumS
  rw [if_pos hc]
  unfold madeS
  rw [if_pos]
  rw [okR_iff]
  simp only
  omega

set_option maxRecDepth 100000 in
set_option maxHeartbeats 2000000 in
theorem gives_any (r : TR) (lo : Nat) (A : Option Addr) (n cc : Nat) (gs : List Gp) (w : World) (hx : gpL.at w lo A gs) (hn : Aside (gs.length = n)) (hl : n ≤ maxLen) :
    Calls Try.prog 47 #[rV r, .slice A n cc] w (GivesPost w (errG r gs) (if errG r gs = 0 then sumR (gs.map (giveR r)) else R.d)) := by
  have h1 := fun (W : World) => checkRules_any r W
  have hrv : rV r = .agg #[.int .i64 r.frost, .int .i64 r.thaw, .int .i64 r.gain, .int .i64 r.full, .int .i64 r.ice, .int .i64 r.most, .int .i64 r.melt, .int .i64 r.rlow, .int .i64 r.rhigh, .int .i64 r.pull] := rfl
  have he : errG r gs = if okRules r then (if 60 < n then 5 else if gs.all okG then 0 else 2) else 2 := by unfold errG; rw [hn.out]
  generalize errG r gs = er at he ⊢
  obtain ⟨res, hres⟩ : ∃ res, (if er = 0 then sumR (gs.map (giveR r)) else R.d) = res := ⟨_, rfl⟩
  rw [hres]
  have hbb : okRules r = true → TROk r := (okRules_iff r).1
  generalize okRules r = b1 at he h1 hbb
  rw [hrv] at h1 ⊢
  have HX : Aside (gpL.at w lo A gs) := hx
  clear hx hrv
  cases b1 with
  | false =>
    simp only [Bool.false_eq_true, if_false] at he
    subst he
    obtain rfl : R.d = res := hres
    go_enter Try.func47, Try.ntmps47
    go_wp2_with fail
    refine (h1 _).mono ?_
    rintro e w1 ⟨rfl, hb1⟩
    have hz1 := hb1.size
    simp only [World.size_alloc] at hz1
    have u0 := (hb1.cell (p := ⟨w.heap.size + 1, 0, none⟩) (by show w.heap.size + 1 < _; simp)).trans (show _ = some (.int .i64 0) by simp [go_sem])
    have u1 := (hb1.cell (p := ⟨w.heap.size + 1, 1, none⟩) (by show w.heap.size + 1 < _; simp)).trans (show _ = some (.int .i64 0) by simp [go_sem])
    have v0 := (hb1.frozen (p := ⟨w.heap.size + 1, 0, none⟩) (by show w.heap.size + 1 < _; simp)).trans (show _ = false by simp [go_sem])
    have v1 := (hb1.frozen (p := ⟨w.heap.size + 1, 1, none⟩) (by show w.heap.size + 1 < _; simp)).trans (show _ = false by simp [go_sem])
    have hl3 : w.heap.size + 1 < w1.heap.size := by omega
    have hB1 : Below w.heap.size w w1 := (by (try show Below _ _ _); repeat (first | (with_reducible refine Below.setCell ?_ (by first | omega | (simp <;> omega)) _) | (with_reducible refine Below.alloc ?_ (by first | omega | (simp <;> omega)) _) | (with_reducible refine Below.drew ?_) | (with_reducible exact Below.refl _ _) | (with_reducible refine below_call ?_ (by assumption) (by first | omega | (simp <;> omega))) | (with_reducible refine below_call ?_ (Drew.below (by assumption) _) (by first | omega | (simp <;> omega)))))
    go_wp2
    refine bodyPost_ret (v := .tuple #[.agg #[.int .i64 0, .int .i64 0], .int .i64 2]) (by simp [results, Try.results47, go_sem, u0, u1]) rfl ⟨rfl, (by (try show Below _ _ _); repeat (first | (with_reducible refine Below.setCell ?_ (by first | omega | (simp <;> omega)) _) | (with_reducible refine Below.alloc ?_ (by first | omega | (simp <;> omega)) _) | (with_reducible refine Below.drew ?_) | (with_reducible exact Below.refl _ _) | (with_reducible exact hB1) | (with_reducible refine below_call ?_ (by assumption) (by first | omega | (simp <;> omega))) | (with_reducible refine below_call ?_ (Drew.below (by assumption) _) (by first | omega | (simp <;> omega)))))⟩
  | true =>
    have hr := hbb rfl
    simp only [if_true] at he h1
    by_cases hlen : 60 < n
    · rw [if_pos hlen] at he
      subst he
      obtain rfl : R.d = res := hres
      have hlz : (60 : Int) < (n : Int) := by omega
      go_enter Try.func47, Try.ntmps47
      go_wp2_with fail
      refine (h1 _).mono ?_
      rintro e w1 ⟨rfl, hb1⟩
      have hz1 := hb1.size
      simp only [World.size_alloc] at hz1
      have u0 := (hb1.cell (p := ⟨w.heap.size + 1, 0, none⟩) (by show w.heap.size + 1 < _; simp)).trans (show _ = some (.int .i64 0) by simp [go_sem])
      have u1 := (hb1.cell (p := ⟨w.heap.size + 1, 1, none⟩) (by show w.heap.size + 1 < _; simp)).trans (show _ = some (.int .i64 0) by simp [go_sem])
      have v0 := (hb1.frozen (p := ⟨w.heap.size + 1, 0, none⟩) (by show w.heap.size + 1 < _; simp)).trans (show _ = false by simp [go_sem])
      have v1 := (hb1.frozen (p := ⟨w.heap.size + 1, 1, none⟩) (by show w.heap.size + 1 < _; simp)).trans (show _ = false by simp [go_sem])
      have hl3 : w.heap.size + 1 < w1.heap.size := by omega
      have hB1 : Below w.heap.size w w1 := (by (try show Below _ _ _); repeat (first | (with_reducible refine Below.setCell ?_ (by first | omega | (simp <;> omega)) _) | (with_reducible refine Below.alloc ?_ (by first | omega | (simp <;> omega)) _) | (with_reducible refine Below.drew ?_) | (with_reducible exact Below.refl _ _) | (with_reducible refine below_call ?_ (by assumption) (by first | omega | (simp <;> omega))) | (with_reducible refine below_call ?_ (Drew.below (by assumption) _) (by first | omega | (simp <;> omega)))))
      go_wp2
      refine bodyPost_ret (v := .tuple #[.agg #[.int .i64 0, .int .i64 0], .int .i64 5]) (by simp [results, Try.results47, go_sem, u0, u1]) rfl ⟨rfl, (by (try show Below _ _ _); repeat (first | (with_reducible refine Below.setCell ?_ (by first | omega | (simp <;> omega)) _) | (with_reducible refine Below.alloc ?_ (by first | omega | (simp <;> omega)) _) | (with_reducible refine Below.drew ?_) | (with_reducible exact Below.refl _ _) | (with_reducible exact hB1) | (with_reducible refine below_call ?_ (by assumption) (by first | omega | (simp <;> omega))) | (with_reducible refine below_call ?_ (Drew.below (by assumption) _) (by first | omega | (simp <;> omega)))))⟩
    · rw [if_neg hlen] at he
      have hlz : ¬ (60 : Int) < (n : Int) := by omega
      have He := Lib.hid he
      have HRes := Lib.hid hres
      have r1 := hr.r1; have r2 := hr.r2; have r3 := hr.r3; have p1 := hr.p1; have p2 := hr.p2
      obtain ⟨i5, hi5, hz5, hs5, hb5⟩ := info_parts infoRange
      clear he hbb hres
      go_enter Try.func47, Try.ntmps47
      go_wp2_with fail
      refine (h1 _).mono ?_
      rintro e w1 ⟨rfl, hb1⟩
      have hz1 := hb1.size
      simp only [World.size_alloc] at hz1
      have u0 := (hb1.cell (p := ⟨w.heap.size + 1, 0, none⟩) (by show w.heap.size + 1 < _; simp)).trans (show _ = some (.int .i64 0) by simp [go_sem])
      have u1 := (hb1.cell (p := ⟨w.heap.size + 1, 1, none⟩) (by show w.heap.size + 1 < _; simp)).trans (show _ = some (.int .i64 0) by simp [go_sem])
      have v0 := (hb1.frozen (p := ⟨w.heap.size + 1, 0, none⟩) (by show w.heap.size + 1 < _; simp)).trans (show _ = false by simp [go_sem])
      have v1 := (hb1.frozen (p := ⟨w.heap.size + 1, 1, none⟩) (by show w.heap.size + 1 < _; simp)).trans (show _ = false by simp [go_sem])
      have hl3 : w.heap.size + 1 < w1.heap.size := by omega
      have hB1 : Below w.heap.size w w1 := (by (try show Below _ _ _); repeat (first | (with_reducible refine Below.setCell ?_ (by first | omega | (simp <;> omega)) _) | (with_reducible refine Below.alloc ?_ (by first | omega | (simp <;> omega)) _) | (with_reducible refine Below.drew ?_) | (with_reducible exact Below.refl _ _) | (with_reducible refine below_call ?_ (by assumption) (by first | omega | (simp <;> omega))) | (with_reducible refine below_call ?_ (Drew.below (by assumption) _) (by first | omega | (simp <;> omega)))))
      have q0 := (hb1.cell (p := ⟨w.heap.size, 0, none⟩) (by show w.heap.size < _; simp; omega)).trans (show _ = some (.int .i64 r.frost) by simp [go_sem])
      have q1 := (hb1.cell (p := ⟨w.heap.size, 1, none⟩) (by show w.heap.size < _; simp; omega)).trans (show _ = some (.int .i64 r.thaw) by simp [go_sem])
      have q2 := (hb1.cell (p := ⟨w.heap.size, 2, none⟩) (by show w.heap.size < _; simp; omega)).trans (show _ = some (.int .i64 r.gain) by simp [go_sem])
      have q3 := (hb1.cell (p := ⟨w.heap.size, 3, none⟩) (by show w.heap.size < _; simp; omega)).trans (show _ = some (.int .i64 r.full) by simp [go_sem])
      have q4 := (hb1.cell (p := ⟨w.heap.size, 4, none⟩) (by show w.heap.size < _; simp; omega)).trans (show _ = some (.int .i64 r.ice) by simp [go_sem])
      have q5 := (hb1.cell (p := ⟨w.heap.size, 5, none⟩) (by show w.heap.size < _; simp; omega)).trans (show _ = some (.int .i64 r.most) by simp [go_sem])
      have q6 := (hb1.cell (p := ⟨w.heap.size, 6, none⟩) (by show w.heap.size < _; simp; omega)).trans (show _ = some (.int .i64 r.melt) by simp [go_sem])
      have q7 := (hb1.cell (p := ⟨w.heap.size, 7, none⟩) (by show w.heap.size < _; simp; omega)).trans (show _ = some (.int .i64 r.rlow) by simp [go_sem])
      have q8 := (hb1.cell (p := ⟨w.heap.size, 8, none⟩) (by show w.heap.size < _; simp; omega)).trans (show _ = some (.int .i64 r.rhigh) by simp [go_sem])
      have q9 := (hb1.cell (p := ⟨w.heap.size, 9, none⟩) (by show w.heap.size < _; simp; omega)).trans (show _ = some (.int .i64 r.pull) by simp [go_sem])
      have HQ := Lib.hid (And.intro q7 (And.intro q8 (And.intro q9 (And.intro u0 (And.intro u1 (And.intro v0 v1))))))
      clear q0 q1 q2 q3 q4 q5 q6 q7 q8 q9 u0 u1 v0 v1
      have hl1 : w.heap.size < w1.heap.size := by omega
      have hB2 : Aside (Below w.heap.size w w1) := hB1
      go_wp2_with fail
      go_loopg [7, 25] (n) (fun gg v ii wr => ∃ (k : Nat), k ≤ n ∧ n - k ≤ gg ∧ ii = .int .i64 k ∧ Aside (∀ g ∈ gs.take k, okG g = true) ∧ Aside (OwnK rngL 23 wr w1.heap.size v ((gs.take k).map (giveR r))) ∧ Aside (Below w1.heap.size w1 wr))
      case atStart =>
        exact ⟨0, Nat.zero_le _, Nat.le_refl _, rfl, (fun g hg => by simp at hg), ownsRow_emptyK w1 23 2, (by (try show Below _ _ _); repeat (first | (with_reducible refine Below.setCell ?_ (by first | omega | (simp <;> omega)) _) | (with_reducible refine Below.alloc ?_ (by first | omega | (simp <;> omega)) _) | (with_reducible refine Below.drew ?_) | (with_reducible exact Below.refl _ _) | (with_reducible refine below_call ?_ (by assumption) (by first | omega | (simp <;> omega))) | (with_reducible refine below_call ?_ (Drew.below (by assumption) _) (by first | omega | (simp <;> omega)))))⟩
      case round =>
        obtain ⟨k, hk, hg, rfl, hA, hO, hB⟩ := hrel
        obtain ⟨Av, cv, hv, hvl, hvm, hvn, hvE⟩ := hO.out.reads
        subst hv
        obtain ⟨m, hm⟩ : ∃ m, ((gs.take k).map (giveR r)).length = m := ⟨_, rfl⟩
        rw [hm] at hO hvl hvn ⊢
        have Hm := Lib.hid hm
        clear hm
        obtain ⟨q7, q8, q9, u0, u1, v0, v1⟩ := HQ.out
        have hbs := hB.out.size
        replace q7 := (hB.out.cell hl1).trans q7
        replace q8 := (hB.out.cell hl1).trans q8
        replace q9 := (hB.out.cell hl1).trans q9
        replace u0 := (hB.out.cell hl3).trans u0
        replace u1 := (hB.out.cell hl3).trans u1
        replace v0 := (hB.out.frozen (p := ⟨w.heap.size + 1, 0, none⟩) hl3).trans v0
        replace v1 := (hB.out.frozen (p := ⟨w.heap.size + 1, 1, none⟩) hl3).trans v1
        have hB1 : Below w.heap.size w wr := hB2.out.trans (hB.out.mono (by omega))
        by_cases hlt : k < n
        · obtain ⟨bb, oo, hAA, _, hlb, hcs⟩ := HX.out (by have := hn.out; omega)
          subst hAA
          have e0 := (hB1.cell (p := ⟨bb, oo + k * 3 + 0, none⟩) hlb).trans (hcs k 0 (by have := hn.out; omega) (by show 0 < 3; omega))
          have e1 := (hB1.cell (p := ⟨bb, oo + k * 3 + 1, none⟩) hlb).trans (hcs k 1 (by have := hn.out; omega) (by show 1 < 3; omega))
          have e2 := (hB1.cell (p := ⟨bb, oo + k * 3 + 2, none⟩) hlb).trans (hcs k 2 (by have := hn.out; omega) (by show 2 < 3; omega))
          have hk2 : k < gs.length := by have := hn.out; omega
          have htk : gs.take (k + 1) = gs.take k ++ [gs[k]?.getD gpL.d] := by rw [List.take_succ_eq_append_getElem hk2, List.getElem?_eq_getElem hk2]; rfl
          have hmem : gs[k]?.getD gpL.d ∈ gs := by rw [List.getElem?_eq_getElem hk2]; exact List.getElem_mem _
          generalize gs[k]?.getD gpL.d = g at e0 e1 e2 htk hmem
          obtain ⟨ga, gb, gc⟩ := g
          replace e0 : wr.cell? ⟨bb, oo + k * 3, none⟩ = some (.int .i64 ga) := e0
          replace e1 : wr.cell? ⟨bb, oo + k * 3 + 1, none⟩ = some (.int .i64 gb) := e1
          replace e2 : wr.cell? ⟨bb, oo + k * 3 + 2, none⟩ = some (.int .i64 gc) := e2
          have Htk := Lib.hid htk
          have Hmem := Lib.hid hmem
          have hw := fun (A : Option Addr) (W : World) h => thaw_within 0 1000 0 A 1 1 [ga] W h rfl one_le
          have hi := fun (W : World) => thaw_isRange gb gc 0 10000 W
          have hok : okG ⟨ga, gb, gc⟩ = (btw 0 1000 [ga] && (decide (gb ≤ gc) && btw 0 10000 [gb, gc])) := rfl
          generalize (decide (gb ≤ gc) && btw 0 10000 [gb, gc]) = c2 at hok hi
          generalize btw 0 1000 [ga] = c1 at hok hw
          clear htk hcs hmem hvE
          have hltz : (k : Int) < (n : Int) := by omega
          have hi0 : (0 : Int) ≤ (k : Int) := Int.natCast_nonneg _
          have hlbr : bb < wr.heap.size := by have := hB1.size; omega
          have hlr : w.heap.size < wr.heap.size := by omega
          have hlr2 : w.heap.size + 1 < wr.heap.size := by omega
          have hbad : (c1 && c2) = false → er = 2 := fun h => by
            have h2 : gs.all okG = false := by
              cases h3 : gs.all okG with
              | false => rfl
              | true => have := List.all_eq_true.1 h3 _ Hmem.out; rw [hok, h] at this; cases this
            rw [He.out, h2]; rfl
          go_wp2_with fail
          refine (hw _ _ (Ints.of1 (by simp [go_sem]) (by simp))).mono ?_
          rintro e w3 ⟨rfl, hb3⟩
          have hz3 := hb3.size
          simp only [World.size_alloc] at hz3
          have hc3 := fun o => hb3.cell (p := ⟨wr.heap.size, o, none⟩) (by show wr.heap.size < _; simp; omega)
          have hd3 := fun o => hb3.cell (p := ⟨w.heap.size, o, none⟩) (by show w.heap.size < _; simp; omega)
          have he3 := fun o => hb3.cell (p := ⟨w.heap.size + 1, o, none⟩) (by show w.heap.size + 1 < _; simp; omega)
          have hf3 := fun o => hb3.frozen (p := ⟨w.heap.size + 1, o, none⟩) (by show w.heap.size + 1 < _; simp; omega)
          cases c1 with
          | false =>
            obtain rfl := hbad rfl
            obtain rfl : R.d = res := HRes.out
            have y0 : w3.cell? ⟨w.heap.size + 1, 0, none⟩ = some (.int .i64 0) := by rw [he3]; exact al_cell _ (al_cell _ u0)
            have y1 : w3.cell? ⟨w.heap.size + 1, 1, none⟩ = some (.int .i64 0) := by rw [he3]; exact al_cell _ (al_cell _ u1)
            go_wp2
            refine bodyPost_ret (v := .tuple #[.agg #[.int .i64 0, .int .i64 0], .int .i64 2]) (by simp [results, Try.results47, go_sem, y0, y1]) rfl ⟨rfl, (by (try show Below _ _ _); repeat (first | (with_reducible refine Below.setCell ?_ (by first | omega | (simp <;> omega)) _) | (with_reducible refine Below.alloc ?_ (by first | omega | (simp <;> omega)) _) | (with_reducible refine Below.drew ?_) | (with_reducible exact Below.refl _ _) | (with_reducible exact hB1) | (with_reducible refine below_call ?_ (by assumption) (by first | omega | (simp <;> omega))) | (with_reducible refine below_call ?_ (Drew.below (by assumption) _) (by first | omega | (simp <;> omega)))))⟩
          | true =>
            go_wp2_with fail
            refine (hi _).mono ?_
            rintro e w4 ⟨rfl, hb4⟩
            have hz4 := hb4.size
            have hc4 := fun o => hb4.cell (p := ⟨wr.heap.size, o, none⟩) (by show wr.heap.size < _; omega)
            have hd4 := fun o => hb4.cell (p := ⟨w.heap.size, o, none⟩) (by show w.heap.size < _; omega)
            have he4 := fun o => hb4.cell (p := ⟨w.heap.size + 1, o, none⟩) (by show w.heap.size + 1 < _; omega)
            have hf4 := fun o => hb4.frozen (p := ⟨w.heap.size + 1, o, none⟩) (by show w.heap.size + 1 < _; omega)
            cases c2 with
            | false =>
              obtain rfl := hbad rfl
              obtain rfl : R.d = res := HRes.out
              have y0 : w4.cell? ⟨w.heap.size + 1, 0, none⟩ = some (.int .i64 0) := by rw [he4, he3]; exact al_cell _ (al_cell _ u0)
              have y1 : w4.cell? ⟨w.heap.size + 1, 1, none⟩ = some (.int .i64 0) := by rw [he4, he3]; exact al_cell _ (al_cell _ u1)
              go_wp2
              refine bodyPost_ret (v := .tuple #[.agg #[.int .i64 0, .int .i64 0], .int .i64 2]) (by simp [results, Try.results47, go_sem, y0, y1]) rfl ⟨rfl, (by (try show Below _ _ _); repeat (first | (with_reducible refine Below.setCell ?_ (by first | omega | (simp <;> omega)) _) | (with_reducible refine Below.alloc ?_ (by first | omega | (simp <;> omega)) _) | (with_reducible refine Below.drew ?_) | (with_reducible exact Below.refl _ _) | (with_reducible exact hB1) | (with_reducible refine below_call ?_ (by assumption) (by first | omega | (simp <;> omega))) | (with_reducible refine below_call ?_ (Drew.below (by assumption) _) (by first | omega | (simp <;> omega)))))⟩
            | true =>
              have hokk := (okG_iff _).1 hok
              simp only at hokk
              obtain ⟨⟨g1, g2⟩, g3, g4, g5⟩ := hokk
              have a := give_bd g1 g2 r1 (by omega) p1 p2 g3 (by omega)
              have b := give_bd g1 g2 (show 0 ≤ r.rhigh by omega) r3 p1 p2 (show 0 ≤ gc by omega) g5
              have hgr : giveR r ⟨ga, gb, gc⟩ = ⟨ga * r.rlow * (10000 + r.pull * gb) / 10000, (ga * r.rhigh * (10000 + r.pull * gc) + 10000 - 1) / 10000⟩ := rfl
              have HO := Lib.hid hok
              have Hgr := Lib.hid hgr
              clear hok hbad hw hi hgr
              obtain ⟨a1, a2, a3, a4, a5, a6⟩ := a
              obtain ⟨b1, b2, b3, b4, b5, b6⟩ := b
              have x1 : wrap64 (ga * r.rlow) = ga * r.rlow := IntWalk.wrap64_in _ ⟨by omega, by omega⟩
              have x2 : wrap64 (r.pull * gb) = r.pull * gb := IntWalk.wrap64_in _ ⟨by omega, by omega⟩
              have x3 : wrap64 (10000 + r.pull * gb) = 10000 + r.pull * gb := IntWalk.wrap64_in _ ⟨by omega, by omega⟩
              have x4 : wrap64 (ga * r.rlow * (10000 + r.pull * gb)) = ga * r.rlow * (10000 + r.pull * gb) := IntWalk.wrap64_in _ ⟨by omega, by omega⟩
              have y1 : wrap64 (ga * r.rhigh) = ga * r.rhigh := IntWalk.wrap64_in _ ⟨by omega, by omega⟩
              have y2 : wrap64 (r.pull * gc) = r.pull * gc := IntWalk.wrap64_in _ ⟨by omega, by omega⟩
              have y3 : wrap64 (10000 + r.pull * gc) = 10000 + r.pull * gc := IntWalk.wrap64_in _ ⟨by omega, by omega⟩
              have y4 : wrap64 (ga * r.rhigh * (10000 + r.pull * gc)) = ga * r.rhigh * (10000 + r.pull * gc) := IntWalk.wrap64_in _ ⟨by omega, by omega⟩
              have y5 : wrap64 (ga * r.rhigh * (10000 + r.pull * gc) + 10000) = ga * r.rhigh * (10000 + r.pull * gc) + 10000 := IntWalk.wrap64_in _ ⟨by omega, by omega⟩
              have y6 : wrap64 (ga * r.rhigh * (10000 + r.pull * gc) + 10000 - 1) = ga * r.rhigh * (10000 + r.pull * gc) + 10000 - 1 := IntWalk.wrap64_in _ ⟨by omega, by omega⟩
              have y7 : 0 ≤ ga * r.rhigh * (10000 + r.pull * gc) + 10000 - 1 := by omega
              have hO4 := (hO.out.below ((((Below.refl wr.heap.size wr).alloc (Nat.le_refl _) (.cells #[.int .i64 ga, .int .i64 gb, .int .i64 gc] 102)).alloc (by simp) (.cells #[.int .i64 ga] 3))) (Nat.le_refl _))
              have hO5 := (hO4.below hb3 (Nat.le_refl _)).below hb4 (Nat.le_refl _)
              have hne := hO5.lt
              have hO6 := hO5.alloc (.cells #[.int .i64 (ga * r.rlow * (10000 + r.pull * gb) / 10000), .int .i64 ((ga * r.rhigh * (10000 + r.pull * gc) + 10000 - 1) / 10000)] 23)
              unfold OwnK at hO6
              have hmk : m = k := by have := Hm.out; rw [List.length_map, List.length_take] at this; omega
              have HMK := Lib.hid hmk
              have hO7 : World.ownsRow (w4.alloc (.cells #[.int .i64 (ga * r.rlow * (10000 + r.pull * gb) / 10000), .int .i64 ((ga * r.rhigh * (10000 + r.pull * gc) + 10000 - 1) / 10000)] 23)) w1.heap.size 23 2 (.slice Av m cv) m (((gs.take k).map (giveR r)).flatMap rngL.cs) := by have := hO6; rw [Hm.out] at this; exact this
              clear hO4 hO6 hmk
              go_wp2_with (at_builtin; go_loud (refine wpList_append_lies _ rfl _ _ _ (by rfl) w1.heap.size 23 i5 _ 2 16 Try.underlying30 hi5 hz5 hs5 hb5 rfl (by omega) (.slice Av m cv) m (((gs.take k).map (giveR r)).flatMap rngL.cs) (by rfl) hO7 ⟨w4.heap.size, 0, none⟩ 1 1 [.int .i64 (ga * r.rlow * (10000 + r.pull * gb) / 10000), .int .i64 ((ga * r.rhigh * (10000 + r.pull * gc) + 10000 - 1) / 10000)] (by rfl) (by rfl) (news_two' (by simp [go_sem]) (by simp [go_sem])) (by simp [Value.oneCell']) (by omega) (by have := HMK.out; simp only [maxLen]; omega) (by have := HMK.out; omega) (by simp; omega) (w4.heap.size + 1) (by simp) ?_); intro g5 c5 w5 o5 hgrow hat5 hlt5)
              have hb5w : Below w1.heap.size w4 w5 := Below.grown ((Below.refl _ w4).alloc (by omega) _) hgrow (by simp; omega) (fun k e => (hne k e).1)
              go_wp2
              go_roundg (n - (k + 1))
              case measure => omega
              case rel =>
                refine ⟨k + 1, by omega, by omega, by go_num, fun g hg => ?_, ?_, ?_⟩
                · rw [Htk.out] at hg
                  rcases List.mem_append.1 hg with hg | hg
                  · exact hA.out g hg
                  · obtain rfl := List.mem_singleton.1 hg; exact HO.out
                · rw [Htk.out, List.map_append]
                  refine OwnK.snoc (L := rngL) ?_ Hm.out
                  show World.ownsRow _ _ _ _ _ _ (_ ++ rngL.cs (giveR r ⟨ga, gb, gc⟩))
                  rw [Hgr.out]
                  exact o5
                · exact (hB.out.trans ((((Below.refl wr.heap.size wr).alloc (Nat.le_refl _) _).alloc (by simp) _).mono hbs)).trans ((hb3.mono (by simp; omega)).trans ((hb4.mono (by omega)).trans hb5w))
        · have hltz : ¬ (k : Int) < (n : Int) := by omega
          obtain rfl : k = n := by omega
          have hall := hA.out
          have htk : gs.take k = gs := List.take_of_length_le (by have := hn.out; omega)
          rw [htk] at hall hO
          have hao : gs.all okG = true := List.all_eq_true.2 hall
          have her : er = 0 := by rw [He.out, hao]; rfl
          subst her
          have hres : sumR (gs.map (giveR r)) = res := HRes.out
          have hsum := sum_ok hr gs hall (by have := hn.out; omega)
          rw [hres] at hsum
          have hlenk : Aside ((gs.map (giveR r)).length = m) := by have := Hm.out; rw [htk] at this; exact this
          have hS := fun W hx => Sum_any w1.heap.size Av m cv (gs.map (giveR r)) W hx hlenk (Nat.le_trans hvl hvm)
          rw [hsum] at hS
          unfold RE at hS
          simp only at hS
          have hlr2 : w.heap.size + 1 < wr.heap.size := by omega
          go_wp2_with fail
          refine Calls.mono (hS wr (rngL_at.1 (by rw [htk] at hvE; exact hvE))) ?_
          rintro e w3 ⟨rfl, hb3⟩
          have he3 := fun o => hb3.cell (p := ⟨w.heap.size + 1, o, none⟩) hlr2
          have hf3 := fun o => hb3.frozen (p := ⟨w.heap.size + 1, o, none⟩) hlr2
          have hz3 := hb3.size
          go_wp2
          have y0 := (he3 0).trans u0
          have y1 := (he3 1).trans u1
          refine bodyPost_ret (v := .tuple #[.agg #[.int .i64 res.lo, .int .i64 res.hi], .int .i64 0]) (by simp [results, Try.results47, go_sem, y0, y1]) rfl ⟨rfl, (by (try show Below _ _ _); repeat (first | (with_reducible refine Below.setCell ?_ (by first | omega | (simp <;> omega)) _) | (with_reducible refine Below.alloc ?_ (by first | omega | (simp <;> omega)) _) | (with_reducible refine Below.drew ?_) | (with_reducible exact Below.refl _ _) | (with_reducible exact hB1) | (with_reducible refine below_call ?_ (by assumption) (by first | omega | (simp <;> omega))) | (with_reducible refine below_call ?_ (Drew.below (by assumption) _) (by first | omega | (simp <;> omega)))))⟩


end Go.Proofs.Ytlkecgjpmnganaa
