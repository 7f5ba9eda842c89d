/- Contracts: Extreme. -/
import Derived.Test.YtlkecgjpmnganaaThChoose
import Derived.Test.YtlkecgjpmnganaaThBack
import Derived.Test.YtlkecgjpmnganaaThCourse
import Derived.Laws.EntriesVeiled
set_option linter.unusedSimpArgs false
set_option linter.unusedVariables false
namespace Go.Proofs.Ytlkecgjpmnganaa
open Go.RowKit Go.Shelf
attribute [local go_sem] Oper.semAt_some




/-- what is left from an hour on -/
def restS (r : TR) (most : Bool) : List R → St → Int
  | [], _ => 0
  | t :: ts, s => (bestS r most t.lo t.hi (restS r most ts) s).2
/-- the extreme course -/
def extS (r : TR) (most : Bool) : List R → St → List Int
  | [], _ => []
  | t :: ts, s => (bestS r most t.lo t.hi (restS r most ts) s).1 :: extS r most ts (stepT r s (bestS r most t.lo t.hi (restS r most ts) s).1).1

theorem bestF_bd {r : TR} {most : Bool} {V : St → Int} {B : Int} (hV : ∀ s, 0 ≤ V s ∧ V s ≤ B) (s : St) : ∀ (l : List Int) (x : Int × Int), (0 ≤ x.2 ∧ x.2 ≤ B + 1) → 0 ≤ (l.foldl (bestF r most V s) x).2 ∧ (l.foldl (bestF r most V s) x).2 ≤ B + 1
  | [], _, h => h
  | k :: l, x, h => by
    refine bestF_bd hV s l _ ?_
    have hv : 0 ≤ V (stepT r s k).1 + (if (stepT r s k).2 then 1 else 0) ∧ V (stepT r s k).1 + (if (stepT r s k).2 then 1 else 0) ≤ B + 1 := by
      have := hV (stepT r s k).1
      split <;> omega
    unfold bestF
    generalize V (stepT r s k).1 + (if (stepT r s k).2 then 1 else 0) = v at hv ⊢
    by_cases hc : x.1 = 0 ∨ betS most v x.2 = true
    · rw [if_pos hc]; exact hv
    · rw [if_neg hc]; exact h
theorem bestS_bd {r : TR} {most : Bool} {V : St → Int} {B : Int} (hV : ∀ s, 0 ≤ V s ∧ V s ≤ B) (lo hi : Int) (s : St) : 0 ≤ (bestS r most lo hi V s).2 ∧ (bestS r most lo hi V s).2 ≤ B + 1 :=
  bestF_bd hV s _ _ (by have := hV s; dsimp only; omega)
theorem restS_bd (r : TR) (most : Bool) : ∀ (ts : List R) (s : St), 0 ≤ restS r most ts s ∧ restS r most ts s ≤ ts.length
  | [], _ => by simp [restS]
  | t :: ts, s => by
    have := bestS_bd (r := r) (most := most) (restS_bd r most ts) t.lo t.hi s
    simp only [restS, List.length_cons]
    push_cast
    exact this
theorem bestF_kind {r : TR} {most : Bool} {V : St → Int} {s : St} : ∀ (l : List Int), (∀ k ∈ l, 1 ≤ k ∧ k ≤ 3) → ∀ x : Int × Int, ((1 ≤ x.1 ∧ x.1 ≤ 3) ∨ (x.1 = 0 ∧ l ≠ [])) → 1 ≤ (l.foldl (bestF r most V s) x).1 ∧ (l.foldl (bestF r most V s) x).1 ≤ 3
  | [], _, x, h => by
    rcases h with h | h
    · exact h
    · exact absurd rfl h.2
  | k :: l, hl, x, h => by
    refine bestF_kind l (fun a ha => hl a (List.mem_cons_of_mem _ ha)) _ (Or.inl ?_)
    unfold bestF
    generalize V (stepT r s k).1 + (if (stepT r s k).2 then 1 else 0) = v
    by_cases hc : x.1 = 0 ∨ betS most v x.2 = true
    · rw [if_pos hc]; exact hl k (by simp)
    · rw [if_neg hc]
      rcases h with h | h
      · exact h
      · exact absurd (Or.inl h.1) hc
theorem bestS_kind {r : TR} (hr : TROk r) {most : Bool} {V : St → Int} {s : St} {lo hi : Int} (h : lo ≤ hi) : 1 ≤ (bestS r most lo hi V s).1 ∧ (bestS r most lo hi V s).1 ≤ 3 :=
  bestF_kind _ (fun _ hk => kinds_mem hk) _ (Or.inr ⟨rfl, kindsT_ne hr h⟩)

theorem zero_rest : Try.zeroCells136.toList = List.replicate 1891 (Value.int .i16 0) := by kernel_rfl
theorem zero_rest_size : Try.zeroCells136.size = 1891 := by rw [← Array.length_toList, zero_rest, List.length_replicate]
theorem infoRest : (Try.prog.info? 136).map (fun i => (i.zero, i.size, i.bytes)) = some (some (.agg Try.zeroCells136), 1891, 3782) := by kernel_rfl
theorem made_at (N j : Nat) (h : j < N) : (madeCells Try.zeroCells136 N)[j]? = some (.int .i16 0) := by
  have hm : j % 1891 < 1891 := Nat.mod_lt _ (by omega)
  have h1 : Try.zeroCells136[j % 1891]? = some (.int .i16 0) := by
    rw [← Array.getElem?_toList, zero_rest, List.getElem?_replicate, if_pos hm]
  have h2 : Try.zeroCells136[j % 1891]! = .int .i16 0 := by
    rw [getElem!_def, h1]
  simp only [madeCells, zero_rest_size, Array.getElem?_map, Array.getElem?_range, h, if_true, Option.map_some, h2]

theorem run_make_rests (n : Nat) (hn : n ≤ 1000) (w : World) : (Instr.makeSlice 130 (.int .i64 ((n : Int) + 1)) (.int .i64 ((n : Int) + 1))).run Try.prog w = .ok (.slice (some ⟨w.heap.size, 0, none⟩) (n + 1) (n + 1)) (w.alloc (.cells (madeCells Try.zeroCells136 ((n + 1) * 1891)) 136)) := by
  obtain ⟨i5, hi5, hz5, hs5, hb5⟩ := info_parts infoRest
  have := run_makeSlice (P := Try.prog) w 130 136 i5 _ Try.underlying130 hi5 hz5 .i64 .i64 ((n : Int) + 1) ((n : Int) + 1) (by omega) (Int.le_refl _) (by rw [hs5]; omega) (by rw [hb5]; omega) (by omega)
  rw [hs5, show ((n : Int) + 1).toNat = n + 1 by omega] at this
  exact this

/-- behind Extreme -/
def ExtPost (w : World) (er : Int) (xs : List Int) (e : Ending) (w' : World) : Prop := ∃ A c, e = .returned (.tuple #[.slice A xs.length c, .int .i64 er]) ∧ xs.length ≤ c ∧ c ≤ maxLen ∧ (A = none → xs.length = 0 ∧ c = 0) ∧ Els (Value.int .i64) 0 w' w.heap.size A xs ∧ Below w.heap.size w w'

/-- the cells of the rests may be written -/
def Wrt (W : World) (b N : Nat) : Prop := (∀ o, o < N → ∃ v, W.cell? ⟨b, o, none⟩ = some v) ∧ ∀ o, W.frozen? ⟨b, o, none⟩ = false

theorem cell_made {X : World} {b : Nat} (h : X.heap.size = b) (N : Nat) (t : TypeId) (o : Nat) (ho : o < N) : (X.alloc (.cells (madeCells Try.zeroCells136 N) t)).cell? ⟨b, o, none⟩ = some (.int .i16 0) := by
  subst h
  rw [cell_of_row _ _ _ _ _ _ (heap_alloc_new X _)]
  exact made_at N o ho
theorem froz_made {X : World} {b : Nat} (h : X.heap.size = b) (cs : Array Value) (t : TypeId) (o : Nat) (p q : Obj) : (((X.alloc (.cells cs t)).alloc p).alloc q).frozen? ⟨b, o, none⟩ = false := by
  subst h
  have hb : Below (X.alloc (.cells cs t)).heap.size (X.alloc (.cells cs t)) (((X.alloc (.cells cs t)).alloc p).alloc q) := ((Below.refl _ _).alloc (Nat.le_refl _) p).alloc (by simp) q
  rw [hb.frozen (p := ⟨X.heap.size, o, none⟩) (by show X.heap.size < _; simp)]
  exact frozen_of_row _ _ _ _ _ (heap_alloc_new X _)
theorem Wrt.same {W W' : World} {b N : Nat} (h : Wrt W b N) (e : W'.heap[b]? = W.heap[b]?) : Wrt W' b N :=
  ⟨fun o ho => by obtain ⟨v, hv⟩ := h.1 o ho; exact ⟨v, (World.cell?_of_block (a := ⟨b, o, none⟩) e).trans hv⟩, fun o => (World.frozen?_of_block (a := ⟨b, o, none⟩) e).trans (h.2 o)⟩
theorem Rst.same {r : TR} {W W' : World} {b o : Nat} {V : St → Int} (h : Rst r W b o V) (e : W'.heap[b]? = W.heap[b]?) : Rst r W' b o V := fun c i hs => (World.cell?_of_block (a := ⟨b, _, none⟩) e).trans (h c i hs)
theorem Wrt.below {W W' : World} {b N B : Nat} (h : Wrt W b N) (hb : Below B W W') (hB : b < B) : Wrt W' b N := h.same (hb.block b hB)
theorem Rst.below {r : TR} {W W' : World} {b o B : Nat} {V : St → Int} (h : Rst r W b o V) (hb : Below B W W') (hB : b < B) : Rst r W' b o V := h.same (hb.block b hB)
theorem Wrt.set {W : World} {b N : Nat} (h : Wrt W b N) (o : Nat) (v : Value) : Wrt (W.setCell ⟨b, o, none⟩ v) b N := by
  refine ⟨fun o' ho => ?_, fun o' => by rw [World.frozen?_setCell]; exact h.2 o'⟩
  by_cases e : o = o'
  · subst e
    obtain ⟨u, hu⟩ := h.1 o ho
    exact ⟨v, World.cell?_setCell_same' _ _ _ (by rw [hu]; rfl)⟩
  · obtain ⟨u, hu⟩ := h.1 o' ho
    exact ⟨u, (cso _ _ _ _ _ e).trans hu⟩
/-- the rests of one hour, so far -/
def Done (r : TR) (W : World) (b o : Nat) (V : St → Int) (c' i' : Nat) : Prop := ∀ x y : Nat, stIn r ((x : Int), (y : Int)) → (x < c' ∨ (x = c' ∧ y < i')) → W.cell? ⟨b, o + x * 31 + y, none⟩ = some (.int .i16 (V ((x : Int), (y : Int))))
theorem Done.same {r : TR} {W W' : World} {b o : Nat} {V : St → Int} {c' i' : Nat} (h : Done r W b o V c' i') (e : W'.heap[b]? = W.heap[b]?) : Done r W' b o V c' i' := fun x y hs hh => (World.cell?_of_block (a := ⟨b, _, none⟩) e).trans (h x y hs hh)
theorem Done.set {r : TR} (hr : TROk r) {W : World} {b o N : Nat} {V : St → Int} {c' i' : Nat} (h : Done r W b o V c' i') (hw : Wrt W b N) (hi : i' ≤ 30) (hN : o + c' * 31 + i' < N) : Done r (W.setCell ⟨b, o + c' * 31 + i', none⟩ (.int .i16 (V ((c' : Int), (i' : Int))))) b o V c' (i' + 1) := by
  intro x y hs hh
  obtain ⟨h1, h2, h3, h4⟩ := hs
  have := hr.u2; have := hr.m2
  simp only at h1 h2 h3 h4
  by_cases e : x = c' ∧ y = i'
  · obtain ⟨rfl, rfl⟩ := e
    obtain ⟨u, hu⟩ := hw.1 _ hN
    exact World.cell?_setCell_same' _ _ _ (by rw [hu]; rfl)
  · rw [cso _ _ _ _ _ (by omega)]
    exact h x y ⟨h1, h2, h3, h4⟩ (by omega)
theorem Rst.set {r : TR} (hr : TROk r) {W : World} {b idx j p : Nat} {V : St → Int} (h : Rst r W b (j * 1891) V) (hj : idx + 1 ≤ j) (hp : p < 1891) (v : Value) : Rst r (W.setCell ⟨b, idx * 1891 + p, none⟩ v) b (j * 1891) V := by
  intro c i hs
  rw [cso _ _ _ _ _ (by omega)]
  exact h c i hs

theorem wrapI1 (k : Nat) (h : k ≤ 5000) : IntKind.i64.wrap ((k : Int) + 1) = (k : Int) + 1 := by rw [IntKind.wrap_i64]; omega
theorem wrapI2 (k : Nat) (h : k ≤ 5000) : wrap64 ((k : Int) + 1) = (k : Int) + 1 := IntWalk.wrap64_in _ ⟨by omega, by omega⟩
theorem off_lt {idx c i n : Nat} (h1 : idx < n) (h2 : c ≤ 60) (h3 : i ≤ 30) : idx * 1891 + c * 31 + i < (n + 1) * 1891 := by omega

/-- left in the ordinary way alone -/
def onlyN (Q : Exit → Act → World → Prop) : Exit → Act → World → Prop
  | .normal, a, w => Q .normal a w
  | _, _, _ => False
theorem onlyN_in {Q : Exit → Act → World → Prop} {a : Act} {w : World} (h : Q .normal a w) : onlyN Q .normal a w := h
theorem onlyN_out {Q : Exit → Act → World → Prop} : ∀ (e : Exit) (a : Act) (w : World), onlyN Q e a w → Q e a w
  | .normal, _, _, h => h
  | .ret, _, _, h => h.elim
  | .exit _, _, _, h => h.elim
  | .goto _, _, _, h => h.elim
  | .panic _, _, _, h => h.elim
  | .outgrown, _, _, h => h.elim
theorem region_liftF {F : Fence} (hF : Aside (F = Fence.wide)) {n : Nat} {P : Program} {ops : Array Oper} {id : Nat} {Q : Exit → Act → World → Prop} {S : World → Prop} {a : Act} {w : World} (hm : P.follows .mixedOrders = true) (hS : S w.drew)
    (h : S w.drew → wpAnyH P .any ops (onlyN Q) S ops.size (Array.replicate ops.size false) a w.drew) : (Code.region id ops true).wpIn F n P Q a w := by
  rw [hF.out]
  exact wpIn_wide.2 (wp_mono (wp_region_held_drew hm hS h) onlyN_out)

theorem wpIn_named {F : Fence} {n : Nat} {P : Program} {c : Code} {Q : Exit → Act → World → Prop} {a : Act} {w : World} (h : ∀ W, W = w → c.wpIn F n P Q a W) : c.wpIn F n P Q a w := h _ rfl

theorem extreme_err (r : TR) (c i : Int) (most : Bool) (lo : Nat) (A : Option Addr) (n cc : Nat) (ts : List R) (w : World) (hx : Ranges w lo A ts) (hn : Aside (ts.length = n)) (hl : n ≤ maxLen) (h0 : errT r c i ts ≠ 0) :
    Calls Try.prog 31 #[rV r, .agg #[.int .i64 c, .int .i64 i], .slice A n cc, .bool most] w (ExtPost w (errT r c i ts) []) := by
  have h1 := fun (W : World) (hb : Below w.heap.size w W) => check_any r c i lo A n cc ts W (hx.below hb (Nat.le_refl _)) hn hl
  rw [show rV r = .agg #[.int .i64 r.frost, .int .i64 r.thaw, .int .i64 r.gain, .int .i64 r.full, .int .i64 r.ice, .int .i64 r.most, .int .i64 r.melt, .int .i64 r.rlow, .int .i64 r.rhigh, .int .i64 r.pull] from rfl] at h1 ⊢
  generalize errT r c i ts = er at h0 h1
  have h0' : (er == 0) = false := by simpa using h0
  clear hx
  go_enter Try.func31, Try.ntmps31
  go_wp2_with fail
  refine Calls.mono (h1 _ ?_) ?_
  · exact (by (try show Below _ _ _); repeat (first | (with_reducible refine Below.setCell ?_ (by first | omega | (simp <;> omega)) _) | (with_reducible refine Below.alloc ?_ (by first | omega | (simp <;> omega)) _) | (with_reducible refine Below.drew ?_) | (with_reducible exact Below.refl _ _) | (with_reducible refine below_call ?_ (by assumption) (by first | omega | (simp <;> omega))) | (with_reducible refine below_call ?_ (Drew.below (by assumption) _) (by first | omega | (simp <;> omega)))))
  rintro e w1 ⟨rfl, hb1⟩
  have hz1 := hb1.size
  simp only [World.size_alloc] at hz1
  go_wp2
  refine bodyPost_ret (v := .tuple #[.slice none 0 0, .int .i64 er]) (by simp [results, Try.results31, go_sem]) rfl ⟨none, 0, rfl, Nat.le_refl _, Nat.zero_le _, fun _ => ⟨rfl, rfl⟩, fun h => absurd h (by simp), (by (try show Below _ _ _); repeat (first | (with_reducible refine Below.setCell ?_ (by first | omega | (simp <;> omega)) _) | (with_reducible refine Below.alloc ?_ (by first | omega | (simp <;> omega)) _) | (with_reducible refine Below.drew ?_) | (with_reducible exact Below.refl _ _) | (with_reducible refine below_call ?_ (by assumption) (by first | omega | (simp <;> omega))) | (with_reducible refine below_call ?_ (Drew.below (by assumption) _) (by first | omega | (simp <;> omega)))))⟩

set_option maxRecDepth 100000 in
set_option maxHeartbeats 4000000 in
theorem extreme_false (r : TR) (c i : Int) (lo : Nat) (A : Option Addr) (n cc : Nat) (ts : List R) (w : World) (hx : Ranges w lo A ts) (hn : Aside (ts.length = n)) (hl : n ≤ maxLen) (h0 : errT r c i ts = 0) :
    Calls Try.prog 31 #[rV r, .agg #[.int .i64 c, .int .i64 i], .slice A n cc, .bool false] w (ExtPost w 0 (extS r false ts (c, i))) := by
  have h1 := fun (W : World) (hb : Below w.heap.size w W) => check_any r c i lo A n cc ts W (hx.below hb (Nat.le_refl _)) hn hl
  obtain ⟨hr, hst, hlen, hok⟩ := errT_ok h0
  rw [h0] at h1
  have hn1000 : n ≤ 1000 := by have := hn.out; omega
  obtain ⟨c, i, hc, hi, e⟩ := in_nat hr hst
  obtain ⟨rfl, rfl⟩ := Prod.mk.inj e
  have hmk := run_make_rests n hn1000
  have hst' := hst
  have hstp := fun c i k h1 h2 W => step_any r c i k h1 h2 hr W
  rw [show rV r = .agg #[.int .i64 r.frost, .int .i64 r.thaw, .int .i64 r.gain, .int .i64 r.full, .int .i64 r.ice, .int .i64 r.most, .int .i64 r.melt, .int .i64 r.rlow, .int .i64 r.rhigh, .int .i64 r.pull] from rfl] at h1 hstp ⊢
  have HX : Aside (Ranges w lo A ts) := hx
  have HS := Lib.hid hst
  have HO := Lib.hid hok
  have wn : wrap64 ((n : Int) + 1) = (n : Int) + 1 := IntWalk.wrap64_in _ ⟨by omega, by omega⟩
  obtain ⟨ik, hik, hzk, hsk, hbk⟩ := info_parts infoKind
  clear hx hst hst' hok e h0
  refine (callsIn_wide (n := 8)).1 ?_
  obtain ⟨F, hFn, hro, hF⟩ := some_wide
  rw [← hF.out]
  obtain ⟨nn, hnn, hn1⟩ : ∃ nn : Nat, nn = 8 ∧ 1 ≤ nn - 1 - 1 := ⟨8, rfl, by omega⟩
  rw [← hnn]
  have f1 := hFn 17
  have f2 := hFn 63
  have f3 := hFn 72
  have f4 := hFn 71
  refine callsIn_of_wp_marks Try.func31 rfl (hFn _) ?_ hro
  simp only [Try.ntmps31, List.size_toArray, List.length_cons, List.length_nil, Nat.reduceAdd, Nat.reduceSub, Array.replicate_succ, Array.replicate_zero, List.push_toArray, List.append_toArray, List.nil_append, List.cons_append]
  gi_wp2_with fail
  refine (wideC hF (h1 _ ?_)).mono ?_
  · exact (by (try show Below _ _ _); repeat (first | (with_reducible refine Below.setCell ?_ (by first | omega | (simp <;> omega)) _) | (with_reducible refine Below.alloc ?_ (by first | omega | (simp <;> omega)) _) | (with_reducible refine Below.drew ?_) | (with_reducible exact Below.refl _ _) | (with_reducible refine below_call ?_ (by assumption) (by first | omega | (simp <;> omega))) | (with_reducible refine below_call ?_ (Drew.below (by assumption) _) (by first | omega | (simp <;> omega)))))
  rintro e w1 ⟨rfl, hb1⟩
  have hz1 := hb1.size
  simp only [World.size_alloc] at hz1
  have q0 := (hb1.cell (p := ⟨w.heap.size, 0, none⟩) (by show w.heap.size < _; simp; omega)).trans (show _ = some (.int .i64 r.frost) by simp [go_sem])
  have q1 := (hb1.cell (p := ⟨w.heap.size, 1, none⟩) (by show w.heap.size < _; simp; omega)).trans (show _ = some (.int .i64 r.thaw) by simp [go_sem])
  have q2 := (hb1.cell (p := ⟨w.heap.size, 2, none⟩) (by show w.heap.size < _; simp; omega)).trans (show _ = some (.int .i64 r.gain) by simp [go_sem])
  have q3 := (hb1.cell (p := ⟨w.heap.size, 3, none⟩) (by show w.heap.size < _; simp; omega)).trans (show _ = some (.int .i64 r.full) by simp [go_sem])
  have q4 := (hb1.cell (p := ⟨w.heap.size, 4, none⟩) (by show w.heap.size < _; simp; omega)).trans (show _ = some (.int .i64 r.ice) by simp [go_sem])
  have q5 := (hb1.cell (p := ⟨w.heap.size, 5, none⟩) (by show w.heap.size < _; simp; omega)).trans (show _ = some (.int .i64 r.most) by simp [go_sem])
  have q6 := (hb1.cell (p := ⟨w.heap.size, 6, none⟩) (by show w.heap.size < _; simp; omega)).trans (show _ = some (.int .i64 r.melt) by simp [go_sem])
  have q7 := (hb1.cell (p := ⟨w.heap.size, 7, none⟩) (by show w.heap.size < _; simp; omega)).trans (show _ = some (.int .i64 r.rlow) by simp [go_sem])
  have q8 := (hb1.cell (p := ⟨w.heap.size, 8, none⟩) (by show w.heap.size < _; simp; omega)).trans (show _ = some (.int .i64 r.rhigh) by simp [go_sem])
  have q9 := (hb1.cell (p := ⟨w.heap.size, 9, none⟩) (by show w.heap.size < _; simp; omega)).trans (show _ = some (.int .i64 r.pull) by simp [go_sem])
  have s0 := (hb1.cell (p := ⟨w.heap.size + 1, 0, none⟩) (by show w.heap.size + 1 < _; simp)).trans (show _ = some (.int .i64 (c : Int)) by simp [go_sem])
  have s1 := (hb1.cell (p := ⟨w.heap.size + 1, 1, none⟩) (by show w.heap.size + 1 < _; simp)).trans (show _ = some (.int .i64 (i : Int)) by simp [go_sem])
  have t0 := (hb1.frozen (p := ⟨w.heap.size + 1, 0, none⟩) (by show w.heap.size + 1 < _; simp)).trans (show _ = false by simp [go_sem])
  have t1 := (hb1.frozen (p := ⟨w.heap.size + 1, 1, none⟩) (by show w.heap.size + 1 < _; simp)).trans (show _ = false by simp [go_sem])
  have hB1 : Below w.heap.size w w1 := (by (try show Below _ _ _); repeat (first | (with_reducible refine Below.setCell ?_ (by first | omega | (simp <;> omega)) _) | (with_reducible refine Below.alloc ?_ (by first | omega | (simp <;> omega)) _) | (with_reducible refine Below.drew ?_) | (with_reducible exact Below.refl _ _) | (with_reducible refine below_call ?_ (by assumption) (by first | omega | (simp <;> omega))) | (with_reducible refine below_call ?_ (Drew.below (by assumption) _) (by first | omega | (simp <;> omega)))))
  have hl0 : w.heap.size < w1.heap.size := by omega
  have hl1 : w.heap.size + 1 < w1.heap.size := by omega
  clear hb1
  gi_wp2_with fail
  refine (wideC hF (backward_any A n cc _)).mono ?_
  rintro e w2 ⟨rfl, rfl⟩
  gi_wp2
  refine wpIn_named ?_
  intro W6 hW6
  have m0 : W6.cell? ⟨w1.heap.size, 0, none⟩ = some (.int .i64 r.frost) := by rw [hW6]; simp [go_sem]
  have m1 : W6.cell? ⟨w1.heap.size, 1, none⟩ = some (.int .i64 r.thaw) := by rw [hW6]; simp [go_sem]
  have m2 : W6.cell? ⟨w1.heap.size, 2, none⟩ = some (.int .i64 r.gain) := by rw [hW6]; simp [go_sem]
  have m3 : W6.cell? ⟨w1.heap.size, 3, none⟩ = some (.int .i64 r.full) := by rw [hW6]; simp [go_sem]
  have m4 : W6.cell? ⟨w1.heap.size, 4, none⟩ = some (.int .i64 r.ice) := by rw [hW6]; simp [go_sem]
  have m5 : W6.cell? ⟨w1.heap.size, 5, none⟩ = some (.int .i64 r.most) := by rw [hW6]; simp [go_sem]
  have m6 : W6.cell? ⟨w1.heap.size, 6, none⟩ = some (.int .i64 r.melt) := by rw [hW6]; simp [go_sem]
  have m7 : W6.cell? ⟨w1.heap.size, 7, none⟩ = some (.int .i64 r.rlow) := by rw [hW6]; simp [go_sem]
  have m8 : W6.cell? ⟨w1.heap.size, 8, none⟩ = some (.int .i64 r.rhigh) := by rw [hW6]; simp [go_sem]
  have m9 : W6.cell? ⟨w1.heap.size, 9, none⟩ = some (.int .i64 r.pull) := by rw [hW6]; simp [go_sem]
  have mf : W6.cell? ⟨w1.heap.size + 1, 0, none⟩ = some (.func (.func 69) #[] #[]) := by rw [hW6]; simp [go_sem]
  have mc : W6.cell? ⟨w1.heap.size + 1 + 1, 0, none⟩ = some (.func (.func 71) #[] #[.pointer (some ⟨w1.heap.size, 0, none⟩), .pointer (some ⟨w1.heap.size + 1, 0, none⟩)]) := by rw [hW6]; simp [go_sem]
  have ms : W6.cell? ⟨w1.heap.size + 1 + 1 + 1 + 1, 0, none⟩ = some (.slice (some ⟨w1.heap.size + 1 + 1 + 1, 0, none⟩) (n + 1) (n + 1)) := by rw [hW6]; simp [go_sem]
  have mb : W6.cell? ⟨w1.heap.size + 1 + 1 + 1 + 1 + 1, 0, none⟩ = some (.slice A n cc) := by rw [hW6]; simp [go_sem]
  have mr : Wrt W6 (w1.heap.size + 1 + 1 + 1) ((n + 1) * 1891) := ⟨fun o ho => ⟨_, by rw [hW6]; exact al_cell _ (al_cell _ (cell_made (by simp) _ _ o ho))⟩, fun o => by rw [hW6]; exact froz_made (by simp) _ _ _ _ _⟩
  have mz : Rst r W6 (w1.heap.size + 1 + 1 + 1) (n * 1891) (fun _ => 0) := fun a b hs => by
    obtain ⟨h1, h2, h3, h4⟩ := hs
    have := hr.u2; have := hr.m2
    simp only at h1 h2 h3 h4
    rw [hW6]; exact al_cell _ (al_cell _ (cell_made (by simp) _ _ _ (by omega)))
  have hsz6 : W6.heap.size = w1.heap.size + 6 := by rw [hW6]; simp
  have hb6 : Below w1.heap.size w1 W6 := by rw [hW6]; exact (by (try show Below _ _ _); repeat (first | (with_reducible refine Below.setCell ?_ (by first | omega | (simp <;> omega)) _) | (with_reducible refine Below.alloc ?_ (by first | omega | (simp <;> omega)) _) | (with_reducible refine Below.drew ?_) | (with_reducible exact Below.refl _ _) | (with_reducible refine below_call ?_ (by assumption) (by first | omega | (simp <;> omega))) | (with_reducible refine below_call ?_ (Drew.below (by assumption) _) (by first | omega | (simp <;> omega)))))
  clear hW6
  replace q3 := (hb6.cell hl0).trans q3
  replace q5 := (hb6.cell hl0).trans q5
  replace s0 := (hb6.cell hl1).trans s0
  replace s1 := (hb6.cell hl1).trans s1
  replace t0 := (hb6.frozen (p := ⟨w.heap.size + 1, 0, none⟩) hl1).trans t0
  replace t1 := (hb6.frozen (p := ⟨w.heap.size + 1, 1, none⟩) hl1).trans t1
  replace hB1 := hB1.trans (hb6.mono (by omega))
  clear hb6 q0 q1 q2 q4 q6 q7 q8 q9
  obtain ⟨Rb, hRb⟩ : ∃ Rb, Rb = w1.heap.size + 1 + 1 + 1 := ⟨_, rfl⟩
  rw [← hRb] at mr mz
  replace ms : W6.cell? ⟨w1.heap.size + 1 + 1 + 1 + 1, 0, none⟩ = some (.slice (some ⟨Rb, 0, none⟩) (n + 1) (n + 1)) := by rw [hRb]; exact ms
  have hRb1 : w1.heap.size + 3 ≤ Rb := by omega
  have hRb2 : Rb ≤ w1.heap.size + 3 := by omega
  clear hRb
  have hx6 := HX.out.below hB1 (Nat.le_refl _)
  have hx7 : 0 < n → ∀ b o, A = some ⟨b, o, none⟩ → b < W6.heap.size ∧ b ≠ Rb := fun h b o e => by
    obtain ⟨b2, o2, e2, _, hl2, _⟩ := HX.out (by have := hn.out; omega)
    rw [e] at e2
    cases e2
    omega
  have Wfu := Lib.hid (show wrap64 (r.full + 1) = r.full + 1 from IntWalk.wrap64_in _ ⟨by have := hr.u1; omega, by have := hr.u2; omega⟩)
  have Wmo := Lib.hid (show wrap64 (r.most + 1) = r.most + 1 from IntWalk.wrap64_in _ ⟨by have := hr.m1; omega, by have := hr.m2; omega⟩)
  clear wn
  have hdn : ts.drop n = [] := List.drop_eq_nil_of_le (Nat.le_of_eq hn.out)
  have hz0 : ∀ j, n - ([] : List (Nat × R)).length ≤ j → j ≤ n → Rst r W6 Rb (j * 1891) (restS r false (ts.drop j)) := fun j h1 h2 => by
    have e : j = n := Nat.le_antisymm h2 h1
    rw [e, hdn]
    exact mz
  clear mz hdn
  refine wpIn_range_allB hro (by omega) (gf := 91) (fs := #[]) (lb := #[.pointer (some ⟨w1.heap.size + 1 + 1 + 1 + 1 + 1, 0, none⟩)]) rfl (hFn _) (enters_of Try.func91 (by kernel_rfl) rfl)
    (back_gives F (nn - 1) (hFn _) hro (by omega) (w1.heap.size + 1 + 1 + 1 + 1 + 1) W6.heap.size Rb A n cc lo ts W6 (Nat.le_refl _) hn hn1000 (by omega) (by omega) mb hx6 hx7) (Nat.le_refl _) (Below.refl _ _) (fun _ => rfl)
    (fun pre W => W6.grownBy W (some Rb) ∧ Wrt W Rb ((n + 1) * 1891) ∧ ∀ j, n - pre.length ≤ j → j ≤ n → Rst r W Rb (j * 1891) (restS r false (ts.drop j)))
    (fun s X Y row hs hg hrr => by
      have hk := blk_kept (hs.2.1.1 0 (by omega)).choose_spec hg (fun k e => (hrr k e).2)
      exact ⟨grown_tr hs.1 hg (fun k e => Or.inl (hrr k e).1), hs.2.1.same hk, fun j h1 h2 => (hs.2.2 j h1 h2).same hk⟩)
    ⟨grown_refl _ _, mr, hz0⟩ ?round ?done
  case round =>
    rintro l pre x W hsz ⟨hgw, hwr, hrs⟩ hpre
    obtain ⟨hpl, rfl⟩ := back_next hpre
    have hnn2 := hn.out
    obtain ⟨idx, hidx⟩ : ∃ idx, ts.length - 1 - pre.length = idx := ⟨_, rfl⟩
    rw [hidx]
    have hi1 : idx < ts.length := by omega
    have hdrop : ts.drop idx = (ts[idx]?.getD R.d) :: ts.drop (idx + 1) := by rw [List.drop_eq_getElem_cons hi1, List.getElem?_eq_getElem hi1]; rfl
    rcases ht : ts[idx]?.getD R.d with ⟨tl, th⟩
    rw [ht] at hdrop
    clear ht
    simp only [encB, R.val]
    gi_wp2
    refine ⟨(KeepsOthers.alloc _ _).from _, KB.of_below (by (try show Below _ _ _); repeat (first | (with_reducible refine Below.setCell ?_ (by first | omega | (simp <;> omega)) _) | (with_reducible refine Below.alloc ?_ (by first | omega | (simp <;> omega)) _) | (with_reducible refine Below.drew ?_) | (with_reducible exact Below.refl _ _) | (with_reducible refine below_call ?_ (by assumption) (by first | omega | (simp <;> omega))) | (with_reducible refine below_call ?_ (Drew.below (by assumption) _) (by first | omega | (simp <;> omega))))), ?_⟩
    intro W2 ht
    have hz2 := ht.size
    simp only [World.size_alloc] at hz2
    have x0 := ht.cell ⟨W.heap.size, 0, none⟩ (.int .i64 tl) (by simp [go_sem])
    have x1 := ht.cell ⟨W.heap.size, 1, none⟩ (.int .i64 th) (by simp [go_sem])
    have hg2 : W6.grownBy W2 (some Rb) := grown_below (grown_tr hgw (World.grownBy_alloc W _ none) (fun r e => by cases e)) ht.below
    obtain ⟨v9, hv9⟩ := hwr.1 0 (by omega)
    have hgs := hgw.size
    have hblk : W2.heap[Rb]? = W.heap[Rb]? := (ht.blk (al_cell _ hv9)).trans (Below.heap_alloc _ _ _ (by omega))
    replace hwr := hwr.same hblk
    replace hrs : ∀ j, idx + 1 ≤ j → j ≤ n → Rst r W2 Rb (j * 1891) (restS r false (ts.drop j)) := fun j h1 h2 => (hrs j (by omega) h2).same hblk
    clear ht hblk hv9
    replace m0 := gcell hg2 m0 (by omega)
    replace m1 := gcell hg2 m1 (by omega)
    replace m2 := gcell hg2 m2 (by omega)
    replace m3 := gcell hg2 m3 (by omega)
    replace m4 := gcell hg2 m4 (by omega)
    replace m5 := gcell hg2 m5 (by omega)
    replace m6 := gcell hg2 m6 (by omega)
    replace m7 := gcell hg2 m7 (by omega)
    replace m8 := gcell hg2 m8 (by omega)
    replace m9 := gcell hg2 m9 (by omega)
    replace mf := gcell hg2 mf (by omega)
    replace mc := gcell hg2 mc (by omega)
    replace ms := gcell hg2 ms (by omega)
    replace q3 := gcell hg2 q3 (by omega)
    replace q5 := gcell hg2 q5 (by omega)
    have hgs2 := hg2.size
    obtain ⟨xb, hxb⟩ : ∃ xb, xb = W.heap.size := ⟨_, rfl⟩
    have hxb1 : W6.heap.size ≤ xb := by omega
    have hxb2 : xb < W2.heap.size := by omega
    rw [← hxb] at x0 x1 ⊢
    clear hxb
    have hRbW : Rb < W2.heap.size := by omega
    have hRb6 := Lib.hid (show Rb < W6.heap.size by omega)
    have h62 := Lib.hid hgs2
    have nb0 : w1.heap.size ≠ Rb := by omega
    have nb1 : w1.heap.size + 1 ≠ Rb := by omega
    have nb2 : w1.heap.size + 1 + 1 ≠ Rb := by omega
    have nb4 : w1.heap.size + 1 + 1 + 1 + 1 ≠ Rb := by omega
    have nbx : xb ≠ Rb := by omega
    have nbw : w.heap.size ≠ Rb := by omega
    have nbl0 := Lib.hid (show w1.heap.size < Rb by omega)
    have nbl1 := Lib.hid (show w1.heap.size + 1 < Rb by omega)
    have hidn : idx < n := by omega
    have hid5 : idx ≤ 5000 := Nat.le_trans (Nat.le_of_lt hidn) (Nat.le_trans hn1000 (by decide))
    have Wk1 := Lib.hid (wrapI2 idx hid5)
    have Wk2 := Lib.hid (wrapI1 idx hid5)
    have hjj := Lib.hid (show ∀ j, n - (pre.length + 1) ≤ j → idx ≤ j from fun j h => by omega)
    have hdl : ts.length - (idx + 1) ≤ 1000 := by omega
    clear hz1 hl0 hl1 hsz6 hRb1 hRb2 hsz hgs hz2 hxb1 hxb2 hgs2 hc hi hlen hl hnn hnn2 hpl hidx hsk hbk hi1 hpre hx7 hz0 hid5
    have hV := restS_bd r false (ts.drop (idx + 1))
    have hV2 : ∀ s, 0 ≤ restS r false (ts.drop (idx + 1)) s ∧ restS r false (ts.drop (idx + 1)) s ≤ 2000 := fun s => by have := hV s; rw [List.length_drop] at this; omega
    have hVi : restS r false (ts.drop idx) = fun s => (bestS r false tl th (restS r false (ts.drop (idx + 1))) s).2 := by rw [hdrop]; rfl
    have hch := fun (a b : Nat) hst w h1 h2 h3 h4 p0 p1 p2 p3 p4 p5 p6 p7 p8 p9 pf => choose_any r hr false (restS r false (ts.drop (idx + 1))) hV2 a b hst tl th Rb ((idx + 1) * 1891) w1.heap.size (w1.heap.size + 1) w h1 h2 h3 h4 p0 p1 p2 p3 p4 p5 p6 p7 p8 p9 pf
    have HVi := Lib.hid hVi
    have HRS := Lib.hid hrs
    have HQ := Lib.hid (And.intro m0 (And.intro m1 (And.intro m2 (And.intro m3 (And.intro m4 (And.intro m5 (And.intro m6 (And.intro m7 (And.intro m8 (And.intro m9 (And.intro mf (And.intro mc (And.intro ms (And.intro q3 (And.intro q5 (And.intro x0 x1))))))))))))))))
    clear hV hV2 hVi hrs hdrop m0 m1 m2 m3 m4 m5 m6 m7 m8 m9 mf mc ms x0 x1
    generalize hVV : restS r false (ts.drop (idx + 1)) = V at hch HVi
    have hfu1 := hr.u1; have hfu2 := hr.u2; have hmo1 := hr.m1; have hmo2 := hr.m2
    have wfu := Wfu.out
    gi_wp2
    clear wfu
    gi_loopw [46] (fun ii wr => ∃ c' : Nat, (c' : Int) ≤ r.full + 1 ∧ ii = .int .i64 c' ∧ Aside (W2.grownBy wr (some Rb)) ∧ Aside (Wrt wr Rb ((n + 1) * 1891)) ∧ Aside (∀ j, idx + 1 ≤ j → j ≤ n → Rst r wr Rb (j * 1891) (restS r false (ts.drop j))) ∧ Aside (Done r wr Rb (idx * 1891) (fun s => (bestS r false tl th V s).2) c' 0))
      (fun ii _ => 70 - (intOf ii).toNat)
    case atStart => exact ⟨0, by omega, rfl, grown_refl _ _, hwr, HRS.out, fun x y hs hh => by omega⟩
    case round =>
      obtain ⟨c', hc1, rfl, hgr, hwk, hlat, hdo⟩ := hrel
      by_cases hlt : (c' : Int) < r.full + 1
      · obtain ⟨m0, m1, m2, m3, m4, m5, m6, m7, m8, m9, mf, mc, ms, q3, q5, x0, x1⟩ := HQ.out
        replace q5 := gcell hgr.out q5 nbw
        have wmo := Wmo.out
        gi_wp2
        clear wmo
        gi_loopw [52] (fun ii wr => ∃ i' : Nat, (i' : Int) ≤ r.most + 1 ∧ ii = .int .i64 i' ∧ Aside (W2.grownBy wr (some Rb)) ∧ Aside (Wrt wr Rb ((n + 1) * 1891)) ∧ Aside (∀ j, idx + 1 ≤ j → j ≤ n → Rst r wr Rb (j * 1891) (restS r false (ts.drop j))) ∧ Aside (Done r wr Rb (idx * 1891) (fun s => (bestS r false tl th V s).2) c' i'))
          (fun ii _ => 70 - (intOf ii).toNat)
        case atStart => exact ⟨0, by omega, rfl, hgr, hwk, hlat, hdo⟩
        case round =>
          obtain ⟨i', hi1', rfl, hgr2, hwk2, hlat2, hdo2⟩ := hrel
          by_cases hlt2 : (i' : Int) < r.most + 1
          · have hst2 : stIn r ((c' : Int), (i' : Int)) := ⟨by omega, by omega, by omega, by omega⟩
            replace m0 := gcell hgr2.out m0 nb0
            replace m1 := gcell hgr2.out m1 nb0
            replace m2 := gcell hgr2.out m2 nb0
            replace m3 := gcell hgr2.out m3 nb0
            replace m4 := gcell hgr2.out m4 nb0
            replace m5 := gcell hgr2.out m5 nb0
            replace m6 := gcell hgr2.out m6 nb0
            replace m7 := gcell hgr2.out m7 nb0
            replace m8 := gcell hgr2.out m8 nb0
            replace m9 := gcell hgr2.out m9 nb0
            replace mf := gcell hgr2.out mf nb1
            replace mc := gcell hgr2.out mc nb2
            replace ms := gcell hgr2.out ms nb4
            replace x0 := gcell hgr2.out x0 nbx
            replace x1 := gcell hgr2.out x1 nbx
            have hgs3 := hgr2.out.size
            have hRst := hlat2.out (idx + 1) (Nat.le_refl _) (by omega)
            rw [hVV] at hRst
            have hcall := fun W h1 h4 p0 p1 p2 p3 p4 p5 p6 p7 p8 p9 pf => hch c' i' hst2 W h1 (Nat.lt_of_lt_of_le nbl0.out (Nat.le_of_lt h1)) (Nat.lt_of_lt_of_le nbl1.out (Nat.le_of_lt h1)) h4 p0 p1 p2 p3 p4 p5 p6 p7 p8 p9 pf
            have hoff : idx * 1891 + c' * 31 + i' < (n + 1) * 1891 := off_lt hidn (by omega) (by omega)
            obtain ⟨v8, hv8⟩ := hwk2.out.1 _ hoff
            have hf8 := hwk2.out.2 (idx * 1891 + c' * 31 + i')
            have z1 : (0 : Int) ≤ (idx : Int) := Int.natCast_nonneg _
            have z2 : (idx : Int) < (n : Int) + 1 := by omega
            have z3 : (0 : Int) ≤ (idx : Int) + 1 := by omega
            have z4 : (idx : Int) + 1 < (n : Int) + 1 := by omega
            have z5 : (0 : Int) ≤ (c' : Int) := Int.natCast_nonneg _
            have z6 : (c' : Int) < 61 := by omega
            have z7 : (0 : Int) ≤ (i' : Int) := Int.natCast_nonneg _
            have z8 : (i' : Int) < 31 := by omega
            have hk1 := Wk1.out
            have hk2 := Wk2.out
            gi_wp2_with fail
            have hAll : Aside (∀ W, wr.grownBy W (some Rb) → (wr.grownBy W (some Rb) ∧ W.cell? ⟨w1.heap.size + 1 + 1 + 1 + 1, 0, none⟩ = some (.slice (some ⟨Rb, 0, none⟩) (n + 1) (n + 1)) ∧ W.cell? ⟨w1.heap.size + 1 + 1, 0, none⟩ = some (.func (.func 71) #[] #[.pointer (some ⟨w1.heap.size, 0, none⟩), .pointer (some ⟨w1.heap.size + 1, 0, none⟩)]) ∧ W.cell? ⟨xb, 0, none⟩ = some (.int .i64 tl) ∧ W.cell? ⟨xb, 1, none⟩ = some (.int .i64 th))) := fun W h => ⟨h, gcell h ms nb4, gcell h mc nb2, gcell h x0 nbx, gcell h x1 nbx⟩
            refine region_lift (S := fun W => wr.grownBy W (some Rb) ∧ W.cell? ⟨w1.heap.size + 1 + 1 + 1 + 1, 0, none⟩ = some (.slice (some ⟨Rb, 0, none⟩) (n + 1) (n + 1)) ∧ W.cell? ⟨w1.heap.size + 1 + 1, 0, none⟩ = some (.func (.func 71) #[] #[.pointer (some ⟨w1.heap.size, 0, none⟩), .pointer (some ⟨w1.heap.size + 1, 0, none⟩)]) ∧ W.cell? ⟨xb, 0, none⟩ = some (.int .i64 tl) ∧ W.cell? ⟨xb, 1, none⟩ = some (.int .i64 th)) hF (by kernel_rfl) (by kernel_rfl) ?_ (hAll.out _ (grown_drew _ _)) (fun hS0 => ?_)
            · rintro ⟨_, _, h⟩; exact h
            (try go_simp)
            refine wpAnyH_take (i := 0) (v := ?_) rfl (by kernel_rfl) (by kernel_rfl) (by kernel_rfl) (fun _ _ _ h => h) (Or.inl ⟨by rfl, ?_⟩) hS0 ?_
            rotate_left
            · (intro W hSw; (try dsimp only at hSw); go_split_ands; go_simp; (try with_reducible rfl))
            (try go_simp)
            (try go_simp)
            refine wpAnyH_take (i := 1) (v := ?_) rfl (by kernel_rfl) (by kernel_rfl) (by kernel_rfl) (fun _ _ _ h => h) (Or.inl ⟨by rfl, ?_⟩) hS0 ?_
            rotate_left
            · (intro W hSw; (try dsimp only at hSw); go_split_ands; go_simp; (try with_reducible rfl))
            (try go_simp)
            (try go_simp)
            refine wpAnyH_take (i := 2) (v := ?_) rfl (by kernel_rfl) (by kernel_rfl) (by kernel_rfl) (fun _ _ _ h => h) (Or.inl ⟨by rfl, ?_⟩) hS0 ?_
            rotate_left
            · (intro W hSw; (try dsimp only at hSw); go_split_ands; go_simp; (try with_reducible rfl))
            (try go_simp)
            (try go_simp)
            refine wpAnyH_take (i := 3) (v := ?_) rfl (by kernel_rfl) (by kernel_rfl) (by kernel_rfl) (fun _ _ _ h => h) (Or.inl ⟨by rfl, ?_⟩) hS0 ?_
            rotate_left
            · (intro W hSw; (try dsimp only at hSw); go_split_ands; go_simp; (try with_reducible rfl))
            (try go_simp)
            (try go_simp)
            refine wpAnyH_take (i := 4) (v := ?_) rfl (by kernel_rfl) (by kernel_rfl) (by kernel_rfl) (fun _ _ _ h => h) (Or.inl ⟨by rfl, ?_⟩) hS0 ?_
            rotate_left
            · (intro W hSw; (try dsimp only at hSw); go_split_ands; go_simp; (try with_reducible rfl))
            (try go_simp)
            (try go_simp)
            refine wpAnyH_take (i := 5) (v := ?_) rfl (by kernel_rfl) (by kernel_rfl) (by kernel_rfl) (fun _ _ _ h => h) (Or.inl ⟨by rfl, ?_⟩) hS0 ?_
            rotate_left
            · (intro W hSw; (try dsimp only at hSw); go_split_ands; go_simp; (try with_reducible rfl))
            (try go_simp)
            (try go_simp)
            refine wpAnyH_take (i := 6) (v := ?_) rfl (by kernel_rfl) (by kernel_rfl) (by kernel_rfl) (fun _ _ _ h => h) (Or.inl ⟨by rfl, ?_⟩) hS0 ?_
            rotate_left
            · (intro W hSw; (try dsimp only at hSw); go_split_ands; go_simp; (try with_reducible rfl))
            (try go_simp)
            (try go_simp)
            refine wpAnyH_take (i := 7) (v := ?_) rfl (by kernel_rfl) (by kernel_rfl) (by kernel_rfl) (fun _ _ _ h => h) (Or.inl ⟨by rfl, ?_⟩) hS0 ?_
            rotate_left
            · (intro W hSw; (try dsimp only at hSw); go_split_ands; go_simp; (try with_reducible rfl))
            (try go_simp)
            (try go_simp)
            refine wpAnyH_take (i := 8) (v := ?_) rfl (by kernel_rfl) (by kernel_rfl) (by kernel_rfl) (fun _ _ _ h => h) (Or.inl ⟨by rfl, ?_⟩) hS0 ?_
            rotate_left
            · (intro W hSw; (try dsimp only at hSw); go_split_ands; go_simp; (try with_reducible rfl))
            (try go_simp)
            (try go_simp)
            refine wpAnyH_take (i := 9) (v := ?_) rfl (by kernel_rfl) (by kernel_rfl) (by kernel_rfl) (fun _ _ _ h => h) (Or.inl ⟨by rfl, ?_⟩) hS0 ?_
            rotate_left
            · (intro W hSw; (try dsimp only at hSw); go_split_ands; go_simp; (try with_reducible rfl))
            (try go_simp)
            (try go_simp)
            refine wpAnyH_take (i := 10) (v := ?_) rfl (by kernel_rfl) (by kernel_rfl) (by kernel_rfl) (fun _ _ _ h => h) (Or.inl ⟨by rfl, ?_⟩) hS0 ?_
            rotate_left
            · (intro W hSw; (try dsimp only at hSw); go_split_ands; go_simp; (try with_reducible rfl))
            (try go_simp)
            (try go_simp)
            refine wpAnyH_take (i := 11) (v := ?_) rfl (by kernel_rfl) (by kernel_rfl) (by kernel_rfl) (fun _ _ _ h => h) (Or.inl ⟨by rfl, ?_⟩) hS0 ?_
            rotate_left
            · (intro W hSw; (try dsimp only at hSw); go_split_ands; go_simp; (try with_reducible rfl))
            (try go_simp)
            (try go_simp)
            refine wpAnyH_take (i := 12) (v := ?_) rfl (by kernel_rfl) (by kernel_rfl) (by kernel_rfl) (fun _ _ _ h => h) (Or.inl ⟨by rfl, ?_⟩) hS0 ?_
            rotate_left
            · (intro W hSw; (try dsimp only at hSw); go_split_ands; go_simp; (try with_reducible rfl))
            (try go_simp)
            (try go_simp)
            refine wpAnyH_take (i := 17) (v := ?_) rfl (by kernel_rfl) (by kernel_rfl) (by kernel_rfl) (fun _ _ _ h => h) (Or.inl ⟨by rfl, ?_⟩) hS0 ?_
            rotate_left
            · (intro W hSw; (try dsimp only at hSw); go_split_ands; go_simp; (try with_reducible rfl))
            (try go_simp)
            (try go_simp)
            refine wpAnyH_take (i := 18) (v := ?_) rfl (by kernel_rfl) (by kernel_rfl) (by kernel_rfl) (fun _ _ _ h => h) (Or.inl ⟨by rfl, ?_⟩) hS0 ?_
            rotate_left
            · (intro W hSw; (try dsimp only at hSw); go_split_ands; go_simp; (try with_reducible rfl))
            (try go_simp)
            refine wpAnyH_ready (rs := [13]) (by kernel_rfl) (by simp) ?_
            refine (AllReadyH.cons rfl (fun K hK => ?_) AllReadyH.nil)
            go_simp
            have hRbw2 : Rb < wr.drew.heap.size := Nat.lt_of_lt_of_le hRbW hgs3
            go_wp2_with (go_at_call 71; refine (hcall _ hRbw2 hRst m0 m1 m2 m3 m4 m5 m6 m7 m8 m9 mf).mono ?_; rintro e w5 ⟨rfl, hb5⟩; have g5 : wr.grownBy w5 (some Rb) := grown_below (grown_drew wr _) hb5)
            refine hK.out _ _ (hAll.out _ g5) (fun hS1 => ?_)
            clear hK K
            (try go_simp)
            (try go_simp)
            refine wpAnyH_take (i := 14) (v := ?_) rfl (by kernel_rfl) (by kernel_rfl) (by kernel_rfl) (fun _ _ _ h => h) (Or.inl ⟨by rfl, ?_⟩) hS1 ?_
            rotate_left
            · (intro W hSw; (try dsimp only at hSw); go_split_ands; go_simp; (try with_reducible rfl))
            (try go_simp)
            (try go_simp)
            refine wpAnyH_take (i := 15) (v := ?_) rfl (by kernel_rfl) (by kernel_rfl) (by kernel_rfl) (fun _ _ _ h => h) (Or.inl ⟨by rfl, ?_⟩) hS1 ?_
            rotate_left
            · (intro W hSw; (try dsimp only at hSw); go_split_ands; go_simp; (try with_reducible rfl))
            (try go_simp)
            (try go_simp)
            refine wpAnyH_take (i := 16) (v := ?_) rfl (by kernel_rfl) (by kernel_rfl) (by kernel_rfl) (fun _ _ _ h => h) (Or.inl ⟨by rfl, ?_⟩) hS1 ?_
            rotate_left
            · (intro W hSw; (try dsimp only at hSw); go_split_ands; go_simp; (try with_reducible rfl))
            (try go_simp)
            (try go_simp)
            refine wpAnyH_take (i := 19) (v := ?_) rfl (by kernel_rfl) (by kernel_rfl) (by kernel_rfl) (fun _ _ _ h => h) (Or.inl ⟨by rfl, ?_⟩) hS1 ?_
            rotate_left
            · (intro W hSw; (try dsimp only at hSw); go_split_ands; go_simp; (try with_reducible rfl))
            (try go_simp)
            refine wpAnyH_ready (rs := [20]) (by kernel_rfl) (by simp) ?_
            refine (AllReadyH.cons rfl (fun K hK => ?_) AllReadyH.nil)
            go_simp
            have hw5 : Wrt w5 Rb ((n + 1) * 1891) := Wrt.below (W := wr.drew) hwk2.out hb5 hRbw2
            obtain ⟨v7, hv7⟩ := hw5.1 _ hoff
            have hf7 := hw5.2 (idx * 1891 + c' * 31 + i')
            go_simp
            have g8 := grown_tr g5 (grown_set w5 Rb (idx * 1891 + c' * 31 + i') (.int .i16 (bestS r false tl th V ((c' : Int), (i' : Int))).2)) (fun r e => Or.inr (by cases e; rfl))
            have hw8 := hw5.set (idx * 1891 + c' * 31 + i') (.int .i16 (bestS r false tl th V ((c' : Int), (i' : Int))).2)
            have hd8 := Done.set (V := fun s => (bestS r false tl th V s).2) hr (Done.same (W := wr) hdo2.out (hb5.block Rb hRbw2)) hw5 (by omega) hoff
            have hl8 : ∀ j, idx + 1 ≤ j → j ≤ n → Rst r (w5.setCell ⟨Rb, idx * 1891 + c' * 31 + i', none⟩ (.int .i16 (bestS r false tl th V ((c' : Int), (i' : Int))).2)) Rb (j * 1891) (restS r false (ts.drop j)) := fun j h1 h2 => by
              have := Rst.set hr (idx := idx) (p := c' * 31 + i') (Rst.below (W := wr.drew) (hlat2.out j h1 h2) hb5 hRbw2) h1 (by omega) (.int .i16 (bestS r false tl th V ((c' : Int), (i' : Int))).2)
              rwa [← Nat.add_assoc] at this
            refine hK.out _ _ (hAll.out _ g8) (fun hS5 => ?_)
            clear hK K hv7 hf7
            refine wpAnyH_done (by kernel_rfl) ?_ _
            gi_wp2
            go_roundw
            case rel => exact ⟨i' + 1, by omega, by go_num, grown_tr hgr2.out g8 (fun r e => Or.inr (by cases e; rfl)), hw8, hl8, hd8⟩
            case measure => (simp [intOf]; omega)
          · have e2 : (i' : Int) = r.most + 1 := by omega
            gi_wp2
            go_roundw
            case rel =>
              refine ⟨c' + 1, by omega, by go_num, hgr2, hwk2, hlat2, fun x y hs hh => hdo2.out x y hs ?_⟩
              have := hs.2.2.2
              simp only at this
              omega
            case measure => (simp [intOf]; omega)
      · have e2 : (c' : Int) = r.full + 1 := by omega
        gi_wp2
        refine ⟨KeepsFrom.of_grownBy hgr.out (fun j e => by cases e; exact hRb6.out), KB.of_grown hgr.out h62.out, grown_tr hg2 hgr.out (fun r e => Or.inr (by cases e; rfl)), hwk.out, fun j h1 h2 => ?_⟩
        have hij : idx ≤ j := hjj.out j (by first | omega | (simp at h1; omega))
        by_cases hj : j = idx
        · subst hj
          rw [HVi.out]
          intro x y hs
          exact hdo.out x y hs (Or.inl (by have := hs.2.1; simp only at this; omega))
        · exact hlat.out j (by omega) h2
  case done =>
    rintro D W hD ⟨hgw, hwr, hrs⟩ hK
    rw [backL_len] at hrs
    have hgs := hgw.size
    replace hrs : ∀ j, j ≤ n → Rst r W Rb (j * 1891) (restS r false (ts.drop j)) := fun j h => hrs j (by have := hn.out; omega) h
    replace m0 := gcell hgw m0 (by omega)
    replace m1 := gcell hgw m1 (by omega)
    replace m2 := gcell hgw m2 (by omega)
    replace m3 := gcell hgw m3 (by omega)
    replace m4 := gcell hgw m4 (by omega)
    replace m5 := gcell hgw m5 (by omega)
    replace m6 := gcell hgw m6 (by omega)
    replace m7 := gcell hgw m7 (by omega)
    replace m8 := gcell hgw m8 (by omega)
    replace m9 := gcell hgw m9 (by omega)
    replace mf := gcell hgw mf (by omega)
    replace mc := gcell hgw mc (by omega)
    replace ms := gcell hgw ms (by omega)
    replace s0 := gcell hgw s0 (by omega)
    replace s1 := gcell hgw s1 (by omega)
    replace t0 := (hgw.frozen_far ⟨w.heap.size + 1, 0, none⟩ (by show w.heap.size + 1 < _; omega) (by simp; omega)).trans t0
    replace t1 := (hgw.frozen_far ⟨w.heap.size + 1, 1, none⟩ (by show w.heap.size + 1 < _; omega) (by simp; omega)).trans t1
    have hBW : Aside (Below w.heap.size w W) := hB1.trans (grown_bel hgw (by omega) (by omega))
    have hDlt : D < W.heap.size := (Array.getElem?_eq_some_iff.1 hK).1
    have nD : D ≠ w.heap.size + 1 := by omega
    have HD := Lib.hid (show w.heap.size ≤ D by omega)
    have nb0 : w1.heap.size ≠ w.heap.size + 1 := by omega
    have nb1 : w1.heap.size + 1 ≠ w.heap.size + 1 := by omega
    have nb2 : w1.heap.size + 1 + 1 ≠ w.heap.size + 1 := by omega
    have nb4 : w1.heap.size + 1 + 1 + 1 + 1 ≠ w.heap.size + 1 := by omega
    have nbR : Rb ≠ w.heap.size + 1 := by omega
    have nr0 : w1.heap.size ≠ Rb := by omega
    have nr1 : w1.heap.size + 1 ≠ Rb := by omega
    have nr2 : w1.heap.size + 1 + 1 ≠ Rb := by omega
    have nr4 : w1.heap.size + 1 + 1 + 1 + 1 ≠ Rb := by omega
    have nrb : w.heap.size + 1 ≠ Rb := by omega
    have hlR : Rb < W.heap.size := by omega
    have hlb1 : w.heap.size + 1 < W.heap.size := by omega
    have nl0 := Lib.hid (show w1.heap.size < Rb by omega)
    have nl1 := Lib.hid (show w1.heap.size + 1 < Rb by omega)
    have nl4 := Lib.hid (show w1.heap.size + 1 + 1 + 1 + 1 < W.heap.size by omega)
    have hwW := Lib.hid (show w.heap.size ≤ W.heap.size by omega)
    have hnl : ∀ j, j ≤ n → ts.length - j ≤ 1000 := fun j h => by have := hn.out; omega
    have HNL := Lib.hid hnl
    have HRS := Lib.hid hrs
    have HKD := Lib.hid hK
    have h1nn : 1 ≤ nn := by omega
    have HQ := Lib.hid (And.intro m0 (And.intro m1 (And.intro m2 (And.intro m3 (And.intro m4 (And.intro m5 (And.intro m6 (And.intro m7 (And.intro m8 (And.intro m9 (And.intro mf (And.intro mc ms))))))))))))
    clear hz1 hl0 hl1 hsz6 hRb1 hRb2 hgs hc hi hlen hl hnn hx7 hz0 hx6 hB1 q3 q5 mr mb hrs hK m0 m1 m2 m3 m4 m5 m6 m7 m8 m9 mf mc ms hD hgw hwr hnl
    gi_wp2
    gi_loopw [19, 79] (fun v ii wr => ∃ (k x y : Nat) (acc : List Int), k ≤ n ∧ ii = .int .i64 k ∧ Aside (extS r false ts ((c : Int), (i : Int)) = acc ++ extS r false (ts.drop k) ((x : Int), (y : Int))) ∧ Aside (acc.length = k) ∧ Aside (stIn r ((x : Int), (y : Int))) ∧ Aside (Own1 (Value.int .i64) 43 wr W.heap.size v acc) ∧ Aside (W.grownBy wr (some (w.heap.size + 1))) ∧
      wr.cell? ⟨w.heap.size + 1, 0, none⟩ = some (.int .i64 (x : Int)) ∧ wr.cell? ⟨w.heap.size + 1, 1, none⟩ = some (.int .i64 (y : Int)) ∧ wr.frozen? ⟨w.heap.size + 1, 0, none⟩ = false ∧ wr.frozen? ⟨w.heap.size + 1, 1, none⟩ = false)
      (fun v ii _ => n - (intOf ii).toNat)
    case atStart =>
      exact ⟨0, c, i, [], Nat.zero_le _, rfl, rfl, rfl, HS.out, Own1.nil _ _ _ _, grown_refl _ _, s0, s1, t0, t1⟩
    case round =>
      obtain ⟨k, x, y, acc, hk, rfl, hE, hA, hst2, hO, hG, s0, s1, t0, t1⟩ := hrel
      obtain ⟨Av, cv, hv, hvl, hvm, hvn, hvE⟩ := hO.out.reads 0
      subst hv
      obtain ⟨m0, m1, m2, m3, m4, m5, m6, m7, m8, m9, mf, mc, ms⟩ := HQ.out
      replace m0 := gcell hG.out m0 nb0
      replace m1 := gcell hG.out m1 nb0
      replace m2 := gcell hG.out m2 nb0
      replace m3 := gcell hG.out m3 nb0
      replace m4 := gcell hG.out m4 nb0
      replace m5 := gcell hG.out m5 nb0
      replace m6 := gcell hG.out m6 nb0
      replace m7 := gcell hG.out m7 nb0
      replace m8 := gcell hG.out m8 nb0
      replace m9 := gcell hG.out m9 nb0
      replace mf := gcell hG.out mf nb1
      replace mc := gcell hG.out mc nb2
      replace ms := gcell hG.out ms nb4
      have hgs := hG.out.size
      by_cases hlt : k < n
      · have hnn3 := hn.out
        obtain ⟨bb, oo, hAA, _, hlb, hcs⟩ := HX.out (by omega)
        subst hAA
        have hi1 : k < ts.length := by omega
        have e0 := gcell hG.out ((hBW.out.cell (p := ⟨bb, oo + k * 2 + 0, none⟩) hlb).trans (hcs k 0 hi1 (by omega))) (by omega)
        have e1 := gcell hG.out ((hBW.out.cell (p := ⟨bb, oo + k * 2 + 1, none⟩) hlb).trans (hcs k 1 hi1 (by omega))) (by omega)
        have hdrop : ts.drop k = (ts[k]?.getD R.d) :: ts.drop (k + 1) := by rw [List.drop_eq_getElem_cons hi1, List.getElem?_eq_getElem hi1]; rfl
        have hokt := List.all_eq_true.1 HO.out (ts[k]?.getD R.d) (by rw [List.getElem?_eq_getElem hi1]; exact List.getElem_mem _)
        rcases htt : ts[k]?.getD R.d with ⟨tl, th⟩
        rw [htt] at e0 e1 hdrop hokt
        simp only [R.cell, Nat.add_zero, if_true, Nat.one_ne_zero, if_false] at e0 e1
        have hle := okT_le hokt
        have hV := restS_bd r false (ts.drop (k + 1))
        have hnl2 := HNL.out (k + 1) hlt
        have hV2 : ∀ s, 0 ≤ restS r false (ts.drop (k + 1)) s ∧ restS r false (ts.drop (k + 1)) s ≤ 2000 := fun s => by have := hV s; rw [List.length_drop] at this; omega
        have hE2 := hE.out
        rw [hdrop] at hE2
        simp only [extS] at hE2
        have hkd := bestS_kind hr (most := false) (V := restS r false (ts.drop (k + 1))) (s := ((x : Int), (y : Int))) hle
        have hRst : Rst r wr Rb ((k + 1) * 1891) (restS r false (ts.drop (k + 1))) := (HRS.out (k + 1) hlt).same (hG.out.block Rb hlR (fun e => nbR (by cases e; rfl)))
        have hch := fun w h1 h2 h3 h4 p0 p1 p2 p3 p4 p5 p6 p7 p8 p9 pf => choose_any r hr false (restS r false (ts.drop (k + 1))) hV2 x y hst2.out tl th Rb ((k + 1) * 1891) w1.heap.size (w1.heap.size + 1) w h1 h2 h3 h4 p0 p1 p2 p3 p4 p5 p6 p7 p8 p9 pf
        generalize hbv : bestS r false tl th (restS r false (ts.drop (k + 1))) ((x : Int), (y : Int)) = bv at hch hE2 hkd
        obtain ⟨kd, vl⟩ := bv
        simp only at hch hE2 hkd
        have hstep := hstp x y kd hkd hst2.out
        have hsi := stepT_in hr hst2.out (k := kd)
        rcases hsr : stepT r ((x : Int), (y : Int)) kd with ⟨⟨x2, y2⟩, ran⟩
        rw [hsr] at hstep hsi hE2
        obtain ⟨z1, z2, z3, z4⟩ := hsi
        simp only at z1 z2 z3 z4 hE2
        obtain ⟨x2, rfl⟩ := Int.eq_ofNat_of_zero_le z1
        obtain ⟨y2, rfl⟩ := Int.eq_ofNat_of_zero_le z3
        have hst3 := Lib.hid (show stIn r ((x2 : Int), (y2 : Int)) from ⟨z1, z2, z3, z4⟩)
        simp only [sV] at hstep
        have HE2 := Lib.hid hE2
        have hltz : (k : Int) < (n : Int) := by omega
        have hi0 : (0 : Int) ≤ (k : Int) := Int.natCast_nonneg _
        have hk5 : k ≤ 5000 := by omega
        have hlbr : bb < wr.heap.size := Nat.lt_of_lt_of_le hlb (Nat.le_trans hwW.out hgs)
        have Wk1 := Lib.hid (wrapI2 k hk5)
        have Wk2 := Lib.hid (wrapI1 k hk5)
        have u1 : (0 : Int) ≤ (k : Int) + 1 := by omega
        have u2 : (k : Int) + 1 < (n : Int) + 1 := by omega
        have hlr : Rb < wr.heap.size := Nat.lt_of_lt_of_le hlR hgs
        have hlw : w.heap.size + 1 < wr.heap.size := Nat.lt_of_lt_of_le hlb1 hgs
        have hal : acc.length + 1 ≤ 5000 := by have := hA.out; omega
        have Hal := Lib.hid hal
        clear hE2 hcs hdrop hV hV2 hnl2 hbv hsr hkd z1 z2 z3 z4 hokt htt hnn3 hk5 hal hi1 hvE
        have hk1 := Wk1.out
        have hk2 := Wk2.out
        gi_wp2_with fail
        have x0 : (wr.alloc (.cells #[.int .i64 tl, .int .i64 th] 23)).cell? ⟨wr.heap.size, 0, none⟩ = some (.int .i64 tl) := by simp [go_sem]
        have x1 : (wr.alloc (.cells #[.int .i64 tl, .int .i64 th] 23)).cell? ⟨wr.heap.size, 1, none⟩ = some (.int .i64 th) := by simp [go_sem]
        have hbq : Below wr.heap.size wr (wr.alloc (.cells #[.int .i64 tl, .int .i64 th] 23)) := (Below.refl _ _).alloc (Nat.le_refl _) _
        have hsq : wr.heap.size < (wr.alloc (.cells #[.int .i64 tl, .int .i64 th] 23)).heap.size := by simp
        generalize wr.alloc (.cells #[.int .i64 tl, .int .i64 th] 23) = wq at x0 x1 hbq hsq ⊢
        obtain ⟨xb, hxb⟩ : ∃ xb, xb = wr.heap.size := ⟨_, rfl⟩
        have nxb : xb ≠ Rb := by omega
        have hlq : Rb < wq.heap.size := Nat.lt_trans hlr hsq
        rw [← hxb] at x0 x1 ⊢
        clear hxb
        have hRq : Rst r wq Rb ((k + 1) * 1891) (restS r false (ts.drop (k + 1))) := hRst.below hbq hlr
        replace m0 := (hbq.cell (Nat.lt_trans nl0.out hlr)).trans m0
        replace m1 := (hbq.cell (Nat.lt_trans nl0.out hlr)).trans m1
        replace m2 := (hbq.cell (Nat.lt_trans nl0.out hlr)).trans m2
        replace m3 := (hbq.cell (Nat.lt_trans nl0.out hlr)).trans m3
        replace m4 := (hbq.cell (Nat.lt_trans nl0.out hlr)).trans m4
        replace m5 := (hbq.cell (Nat.lt_trans nl0.out hlr)).trans m5
        replace m6 := (hbq.cell (Nat.lt_trans nl0.out hlr)).trans m6
        replace m7 := (hbq.cell (Nat.lt_trans nl0.out hlr)).trans m7
        replace m8 := (hbq.cell (Nat.lt_trans nl0.out hlr)).trans m8
        replace m9 := (hbq.cell (Nat.lt_trans nl0.out hlr)).trans m9
        replace mf := (hbq.cell (p := ⟨_, 0, none⟩) (Nat.lt_trans nl1.out hlr)).trans mf
        have hm2 : w1.heap.size + 1 + 1 < wr.heap.size := by have := nl1.out; omega
        have hm4 := Nat.lt_of_lt_of_le nl4.out hgs
        replace mc := (hbq.cell (p := ⟨_, 0, none⟩) hm2).trans mc
        replace ms := (hbq.cell (p := ⟨_, 0, none⟩) hm4).trans ms
        replace s0 := (hbq.cell (p := ⟨_, 0, none⟩) hlw).trans s0
        replace s1 := (hbq.cell (p := ⟨_, 1, none⟩) hlw).trans s1
        replace t0 := (hbq.frozen (p := ⟨w.heap.size + 1, 0, none⟩) hlw).trans t0
        replace t1 := (hbq.frozen (p := ⟨w.heap.size + 1, 1, none⟩) hlw).trans t1
        have hAll : Aside (∀ W, wq.grownBy W (some Rb) → (wq.grownBy W (some Rb) ∧ W.cell? ⟨w1.heap.size + 1 + 1 + 1 + 1, 0, none⟩ = some (.slice (some ⟨Rb, 0, none⟩) (n + 1) (n + 1)) ∧ W.cell? ⟨w1.heap.size + 1 + 1, 0, none⟩ = some (.func (.func 71) #[] #[.pointer (some ⟨w1.heap.size, 0, none⟩), .pointer (some ⟨w1.heap.size + 1, 0, none⟩)]) ∧ W.cell? ⟨xb, 0, none⟩ = some (.int .i64 tl) ∧ W.cell? ⟨xb, 1, none⟩ = some (.int .i64 th) ∧ W.cell? ⟨w.heap.size + 1, 0, none⟩ = some (.int .i64 (x : Int)) ∧ W.cell? ⟨w.heap.size + 1, 1, none⟩ = some (.int .i64 (y : Int)))) := fun W h => ⟨h, gcell h ms nr4, gcell h mc nr2, gcell h x0 nxb, gcell h x1 nxb, gcell h s0 nrb, gcell h s1 nrb⟩
        refine region_liftF (S := fun W => wq.grownBy W (some Rb) ∧ W.cell? ⟨w1.heap.size + 1 + 1 + 1 + 1, 0, none⟩ = some (.slice (some ⟨Rb, 0, none⟩) (n + 1) (n + 1)) ∧ W.cell? ⟨w1.heap.size + 1 + 1, 0, none⟩ = some (.func (.func 71) #[] #[.pointer (some ⟨w1.heap.size, 0, none⟩), .pointer (some ⟨w1.heap.size + 1, 0, none⟩)]) ∧ W.cell? ⟨xb, 0, none⟩ = some (.int .i64 tl) ∧ W.cell? ⟨xb, 1, none⟩ = some (.int .i64 th) ∧ W.cell? ⟨w.heap.size + 1, 0, none⟩ = some (.int .i64 (x : Int)) ∧ W.cell? ⟨w.heap.size + 1, 1, none⟩ = some (.int .i64 (y : Int))) hF (by kernel_rfl) (hAll.out _ (grown_drew _ _)) (fun hS0 => ?_)
        (try go_simp)
        refine wpAnyH_take (i := 0) (v := ?_) rfl (by kernel_rfl) (by kernel_rfl) (by kernel_rfl) (fun _ _ _ h => h) (Or.inl ⟨by rfl, ?_⟩) hS0 ?_
        rotate_left
        · (intro W hSw; (try dsimp only at hSw); go_split_ands; go_simp; (try with_reducible rfl))
        (try go_simp)
        (try go_simp)
        refine wpAnyH_take (i := 1) (v := ?_) rfl (by kernel_rfl) (by kernel_rfl) (by kernel_rfl) (fun _ _ _ h => h) (Or.inl ⟨by rfl, ?_⟩) hS0 ?_
        rotate_left
        · (intro W hSw; (try dsimp only at hSw); go_split_ands; go_simp; (try with_reducible rfl))
        (try go_simp)
        (try go_simp)
        refine wpAnyH_take (i := 2) (v := ?_) rfl (by kernel_rfl) (by kernel_rfl) (by kernel_rfl) (fun _ _ _ h => h) (Or.inl ⟨by rfl, ?_⟩) hS0 ?_
        rotate_left
        · (intro W hSw; (try dsimp only at hSw); go_split_ands; go_simp; (try with_reducible rfl))
        (try go_simp)
        (try go_simp)
        refine wpAnyH_take (i := 3) (v := ?_) rfl (by kernel_rfl) (by kernel_rfl) (by kernel_rfl) (fun _ _ _ h => h) (Or.inl ⟨by rfl, ?_⟩) hS0 ?_
        rotate_left
        · (intro W hSw; (try dsimp only at hSw); go_split_ands; go_simp; (try with_reducible rfl))
        (try go_simp)
        (try go_simp)
        refine wpAnyH_take (i := 4) (v := ?_) rfl (by kernel_rfl) (by kernel_rfl) (by kernel_rfl) (fun _ _ _ h => h) (Or.inl ⟨by rfl, ?_⟩) hS0 ?_
        rotate_left
        · (intro W hSw; (try dsimp only at hSw); go_split_ands; go_simp; (try with_reducible rfl))
        (try go_simp)
        (try go_simp)
        refine wpAnyH_take (i := 5) (v := ?_) rfl (by kernel_rfl) (by kernel_rfl) (by kernel_rfl) (fun _ _ _ h => h) (Or.inl ⟨by rfl, ?_⟩) hS0 ?_
        rotate_left
        · (intro W hSw; (try dsimp only at hSw); go_split_ands; go_simp; (try with_reducible rfl))
        (try go_simp)
        (try go_simp)
        refine wpAnyH_take (i := 6) (v := ?_) rfl (by kernel_rfl) (by kernel_rfl) (by kernel_rfl) (fun _ _ _ h => h) (Or.inl ⟨by rfl, ?_⟩) hS0 ?_
        rotate_left
        · (intro W hSw; (try dsimp only at hSw); go_split_ands; go_simp; (try with_reducible rfl))
        (try go_simp)
        refine wpAnyH_ready (rs := [7]) (by kernel_rfl) (by simp) ?_
        refine (AllReadyH.cons rfl (fun K hK => ?_) AllReadyH.nil)
        go_simp
        have hlqd : Rb < wq.drew.heap.size := hlq
        go_wp2_with (go_at_call 71; refine (hch _ hlqd (Nat.lt_trans nl0.out hlqd) (Nat.lt_trans nl1.out hlqd) hRq m0 m1 m2 m3 m4 m5 m6 m7 m8 m9 mf).mono ?_; rintro e w5 ⟨rfl, hb5⟩; have g5 : wq.grownBy w5 (some Rb) := grown_below (grown_drew wq _) hb5)
        refine hK.out _ _ (hAll.out _ g5) (fun hS1 => ?_)
        clear hK K
        (try go_simp)
        (try go_simp)
        refine wpAnyH_take (i := 8) (v := ?_) rfl (by kernel_rfl) (by kernel_rfl) (by kernel_rfl) (fun _ _ _ h => h) (Or.inl ⟨by rfl, ?_⟩) hS1 ?_
        rotate_left
        · (intro W hSw; (try dsimp only at hSw); go_split_ands; go_simp; (try with_reducible rfl))
        (try go_simp)
        (try go_simp)
        refine wpAnyH_take (i := 9) (v := ?_) rfl (by kernel_rfl) (by kernel_rfl) (by kernel_rfl) (fun _ _ _ h => h) (Or.inl ⟨by rfl, ?_⟩) hS1 ?_
        rotate_left
        · (intro W hSw; (try dsimp only at hSw); go_split_ands; go_simp; (try with_reducible rfl))
        (try go_simp)
        (try go_simp)
        refine wpAnyH_take (i := 10) (v := ?_) rfl (by kernel_rfl) (by kernel_rfl) (by kernel_rfl) (fun _ _ _ h => h) (Or.inl ⟨by rfl, ?_⟩) hS1 ?_
        rotate_left
        · (intro W hSw; (try dsimp only at hSw); go_split_ands; go_simp; (try with_reducible rfl))
        (try go_simp)
        (try go_simp)
        refine wpAnyH_take (i := 11) (v := ?_) rfl (by kernel_rfl) (by kernel_rfl) (by kernel_rfl) (fun _ _ _ h => h) (Or.inl ⟨by rfl, ?_⟩) hS1 ?_
        rotate_left
        · (intro W hSw; (try dsimp only at hSw); go_split_ands; go_simp; (try with_reducible rfl))
        (try go_simp)
        (try go_simp)
        refine wpAnyH_take (i := 12) (v := ?_) rfl (by kernel_rfl) (by kernel_rfl) (by kernel_rfl) (fun _ _ _ h => h) (Or.inl ⟨by rfl, ?_⟩) hS1 ?_
        rotate_left
        · (intro W hSw; (try dsimp only at hSw); go_split_ands; go_simp; (try with_reducible rfl))
        (try go_simp)
        refine wpAnyH_done (by kernel_rfl) (onlyN_in ?_) _
        replace hb5 : Below wq.heap.size wq w5 := ⟨hb5.os, hb5.tape, hb5.output, hb5.size, hb5.block⟩
        clear hk1 hk2 x0 x1 hRq hch hAll hS1 hS0 mc ms
        replace m0 := gcell g5 m0 nr0
        replace m1 := gcell g5 m1 nr0
        replace m2 := gcell g5 m2 nr0
        replace m3 := gcell g5 m3 nr0
        replace m4 := gcell g5 m4 nr0
        replace m5 := gcell g5 m5 nr0
        replace m6 := gcell g5 m6 nr0
        replace m7 := gcell g5 m7 nr0
        replace m8 := gcell g5 m8 nr0
        replace m9 := gcell g5 m9 nr0
        replace s0 := gcell g5 s0 nrb
        replace s1 := gcell g5 s1 nrb
        replace t0 := (g5.frozen_far ⟨w.heap.size + 1, 0, none⟩ (Nat.lt_trans hlw hsq) (fun e => nrb (by cases e; rfl))).trans t0
        replace t1 := (g5.frozen_far ⟨w.heap.size + 1, 1, none⟩ (Nat.lt_trans hlw hsq) (fun e => nrb (by cases e; rfl))).trans t1
        have hzq5 := g5.size
        have hlw5 : w.heap.size + 1 < w5.heap.size := Nat.lt_of_lt_of_le (Nat.lt_trans hlw hsq) hzq5
        gi_wp2_with fail
        refine (wideC hF (hstep _)).mono ?_
        rintro e w7 ⟨rfl, hb7⟩
        have hz7 := hb7.size
        replace s0 := (hb7.cell (p := ⟨_, 0, none⟩) hlw5).trans s0
        replace s1 := (hb7.cell (p := ⟨_, 1, none⟩) hlw5).trans s1
        replace t0 := (hb7.frozen (p := ⟨w.heap.size + 1, 0, none⟩) hlw5).trans t0
        replace t1 := (hb7.frozen (p := ⟨w.heap.size + 1, 1, none⟩) hlw5).trans t1
        have hb57 : Below wr.heap.size wr w7 := hbq.trans ((hb5.mono (Nat.le_of_lt hsq)).trans (hb7.mono (Nat.le_trans (Nat.le_of_lt hsq) hzq5)))
        have hg7 : W.grownBy w7 (some (w.heap.size + 1)) := grown_below hG.out (hb57.mono hgs)
        have hg8 : W.grownBy ((w7.setCell ⟨w.heap.size + 1, 0, none⟩ (.int .i64 (x2 : Int))).setCell ⟨w.heap.size + 1, 1, none⟩ (.int .i64 (y2 : Int))) (some (w.heap.size + 1)) := grown_tr (grown_tr hg7 (grown_set _ _ _ _) (fun r e => Or.inr (by cases e; rfl))) (grown_set _ _ _ _) (fun r e => Or.inr (by cases e; rfl))
        have hO8 : Own1 (Value.int .i64) 43 ((w7.setCell ⟨w.heap.size + 1, 0, none⟩ (.int .i64 (x2 : Int))).setCell ⟨w.heap.size + 1, 1, none⟩ (.int .i64 (y2 : Int))) W.heap.size (.slice Av acc.length cv) acc := ((hO.out.below hb57 (Nat.le_refl _)).grown (grown_set _ _ _ _) hlb1).grown (grown_set _ _ _ _) hlb1
        have a0 : ((w7.setCell ⟨w.heap.size + 1, 0, none⟩ (.int .i64 (x2 : Int))).setCell ⟨w.heap.size + 1, 1, none⟩ (.int .i64 (y2 : Int))).cell? ⟨w.heap.size + 1, 0, none⟩ = some (.int .i64 (x2 : Int)) := by simp [go_sem, s0]
        have a1 : ((w7.setCell ⟨w.heap.size + 1, 0, none⟩ (.int .i64 (x2 : Int))).setCell ⟨w.heap.size + 1, 1, none⟩ (.int .i64 (y2 : Int))).cell? ⟨w.heap.size + 1, 1, none⟩ = some (.int .i64 (y2 : Int)) := by simp [go_sem, s1]
        have b0 : ((w7.setCell ⟨w.heap.size + 1, 0, none⟩ (.int .i64 (x2 : Int))).setCell ⟨w.heap.size + 1, 1, none⟩ (.int .i64 (y2 : Int))).frozen? ⟨w.heap.size + 1, 0, none⟩ = false := by simp [go_sem, t0]
        have b1 : ((w7.setCell ⟨w.heap.size + 1, 0, none⟩ (.int .i64 (x2 : Int))).setCell ⟨w.heap.size + 1, 1, none⟩ (.int .i64 (y2 : Int))).frozen? ⟨w.heap.size + 1, 1, none⟩ = false := by simp [go_sem, t1]
        have hO9 := hO8.alloc (.cells #[.int .i64 kd] 43)
        unfold Own1 at hO9
        have hne := hO8.lt
        have hz8 : ((w7.setCell ⟨w.heap.size + 1, 0, none⟩ (.int .i64 (x2 : Int))).setCell ⟨w.heap.size + 1, 1, none⟩ (.int .i64 (y2 : Int))).heap.size = w7.heap.size := by simp
        have HN := Lib.hid (show (((w7.setCell ⟨w.heap.size + 1, 0, none⟩ (.int .i64 (x2 : Int))).setCell ⟨w.heap.size + 1, 1, none⟩ (.int .i64 (y2 : Int))).alloc (.cells #[.int .i64 kd] 43)).cell? ⟨w7.heap.size, 0, none⟩ = some (.int .i64 kd) by rw [← hz8]; simp [go_sem])
        have HG8 := Lib.hid hg8
        have hbase : W.heap.size ≤ (((w7.setCell ⟨w.heap.size + 1, 0, none⟩ (.int .i64 (x2 : Int))).setCell ⟨w.heap.size + 1, 1, none⟩ (.int .i64 (y2 : Int))).alloc (.cells #[.int .i64 kd] 43)).heap.size := by have := hg8.size; rw [World.size_alloc]; exact Nat.le_succ_of_le this
        have HB := Lib.hid hbase
        clear hg8 hz8 hbase hg7
        gi_wp2_with (gi_at_builtin; (refine wpListIn_append_own _ rfl _ _ 37 rfl W.heap.size 43 ik _ 1 8 Try.underlying37 hik hzk hsk hbk rfl (by decide) _ _ _ rfl hO9 ⟨w7.heap.size, 0, none⟩ 1 1 [.int .i64 kd] rfl rfl (news_one HN.out) (by simp [Value.oneCell']) (by have := Hal.out; unfold maxLen; omega) (by have := Hal.out; omega) HB.out ?_; intro v' w9 hown' hgrow _; obtain ⟨g', cap', rfl⟩ := ownsRow_succ hown'))
        have hg9 : W.grownBy w9 (some (w.heap.size + 1)) := grown_tr (grown_tr HG8.out (grown_alloc _ _) (fun r e => by cases e)) hgrow (fun r e => Or.inl (hne r e).1)
        have hs8 := HG8.out.size
        have hb1lt := Nat.lt_of_lt_of_le hlb1 hs8
        have hnown : ∀ (e : some (w.heap.size + 1) = Value.ownBlock (.slice Av acc.length cv)), False := fun e => absurd (hne _ e.symm).1 (Nat.not_le_of_lt hlb1)
        have hfar := fun o => (hgrow.cell_far ⟨w.heap.size + 1, o, none⟩ (by rw [World.size_alloc]; exact Nat.lt_succ_of_lt hb1lt) hnown).trans (World.cell?_alloc_lt _ _ _ hb1lt)
        have hffar := fun o => (hgrow.frozen_far ⟨w.heap.size + 1, o, none⟩ (by rw [World.size_alloc]; exact Nat.lt_succ_of_lt hb1lt) hnown).trans (((Below.refl _ _).alloc (Nat.le_refl _) _).frozen (p := ⟨w.heap.size + 1, o, none⟩) hb1lt)
        have hk1 := Wk1.out
        go_roundw
        case rel => exact ⟨k + 1, x2, y2, acc ++ [kd], hlt, (by first | rfl | go_num | (simp [hk1]; done)), (show Aside _ from by show _ = _; rw [HE2.out]; simp), (show Aside _ from by show _ = _; rw [List.length_append, hA.out]; rfl), hst3.out, Own1.snoc hown' rfl, hg9, (hfar 0).trans a0, (hfar 1).trans a1, (hffar 0).trans b0, (hffar 1).trans b1⟩
        case measure => (clear hk1; simp [intOf]; omega)
      · obtain rfl : k = n := Nat.le_antisymm hk (Nat.le_of_not_lt hlt)
        have hE2 := hE.out
        rw [List.drop_eq_nil_of_le (Nat.le_of_eq hn.out)] at hE2
        have hltz : ¬ (k : Int) < (k : Int) := Int.lt_irrefl _
        gi_wp2
        have hK' : wr.heap[D]? = some (.deferred (some [])) := (hG.out.block D hDlt (fun e => nD (by cases e; rfl))).trans HKD.out
        refine ⟨by simp, .inl ⟨_, _, rfl, run_takeDeferred hK', ?_⟩⟩
        have ht := Turn.putObj (B := D) (.deferred none) (Nat.le_refl D) hK' rfl
        simp only [extS, List.append_nil] at hE2
        have hO9 := Own1.grown hO.out (grownBy_putObj' wr D (.deferred none)) hDlt
        refine ⟨.tuple #[.slice Av acc.length cv, .int .i64 0], by simp [results, Try.results31, go_sem], ?_⟩
        (try rw [hE2])
        (try simp only [extS, List.append_nil])
        exact ⟨Av, cv, rfl, hvl, hvm, hvn, (Own1.reads_slice hO9).mono hwW.out, (hBW.out.trans (grown_bel hG.out (Nat.le_succ _) hwW.out)).trans (ht.below.mono HD.out)⟩
set_option maxRecDepth 100000 in
set_option maxHeartbeats 4000000 in
theorem extreme_true (r : TR) (c i : Int) (lo : Nat) (A : Option Addr) (n cc : Nat) (ts : List R) (w : World) (hx : Ranges w lo A ts) (hn : Aside (ts.length = n)) (hl : n ≤ maxLen) (h0 : errT r c i ts = 0) :
    Calls Try.prog 31 #[rV r, .agg #[.int .i64 c, .int .i64 i], .slice A n cc, .bool true] w (ExtPost w 0 (extS r true ts (c, i))) := by
  have h1 := fun (W : World) (hb : Below w.heap.size w W) => check_any r c i lo A n cc ts W (hx.below hb (Nat.le_refl _)) hn hl
  obtain ⟨hr, hst, hlen, hok⟩ := errT_ok h0
  rw [h0] at h1
  have hn1000 : n ≤ 1000 := by have := hn.out; omega
  obtain ⟨c, i, hc, hi, e⟩ := in_nat hr hst
  obtain ⟨rfl, rfl⟩ := Prod.mk.inj e
  have hmk := run_make_rests n hn1000
  have hst' := hst
  have hstp := fun c i k h1 h2 W => step_any r c i k h1 h2 hr W
  rw [show rV r = .agg #[.int .i64 r.frost, .int .i64 r.thaw, .int .i64 r.gain, .int .i64 r.full, .int .i64 r.ice, .int .i64 r.most, .int .i64 r.melt, .int .i64 r.rlow, .int .i64 r.rhigh, .int .i64 r.pull] from rfl] at h1 hstp ⊢
  have HX : Aside (Ranges w lo A ts) := hx
  have HS := Lib.hid hst
  have HO := Lib.hid hok
  have wn : wrap64 ((n : Int) + 1) = (n : Int) + 1 := IntWalk.wrap64_in _ ⟨by omega, by omega⟩
  obtain ⟨ik, hik, hzk, hsk, hbk⟩ := info_parts infoKind
  clear hx hst hst' hok e h0
  refine (callsIn_wide (n := 8)).1 ?_
  obtain ⟨F, hFn, hro, hF⟩ := some_wide
  rw [← hF.out]
  obtain ⟨nn, hnn, hn1⟩ : ∃ nn : Nat, nn = 8 ∧ 1 ≤ nn - 1 - 1 := ⟨8, rfl, by omega⟩
  rw [← hnn]
  have f1 := hFn 17
  have f2 := hFn 63
  have f3 := hFn 72
  have f4 := hFn 71
  refine callsIn_of_wp_marks Try.func31 rfl (hFn _) ?_ hro
  simp only [Try.ntmps31, List.size_toArray, List.length_cons, List.length_nil, Nat.reduceAdd, Nat.reduceSub, Array.replicate_succ, Array.replicate_zero, List.push_toArray, List.append_toArray, List.nil_append, List.cons_append]
  gi_wp2_with fail
  refine (wideC hF (h1 _ ?_)).mono ?_
  · exact (by (try show Below _ _ _); repeat (first | (with_reducible refine Below.setCell ?_ (by first | omega | (simp <;> omega)) _) | (with_reducible refine Below.alloc ?_ (by first | omega | (simp <;> omega)) _) | (with_reducible refine Below.drew ?_) | (with_reducible exact Below.refl _ _) | (with_reducible refine below_call ?_ (by assumption) (by first | omega | (simp <;> omega))) | (with_reducible refine below_call ?_ (Drew.below (by assumption) _) (by first | omega | (simp <;> omega)))))
  rintro e w1 ⟨rfl, hb1⟩
  have hz1 := hb1.size
  simp only [World.size_alloc] at hz1
  have q0 := (hb1.cell (p := ⟨w.heap.size, 0, none⟩) (by show w.heap.size < _; simp; omega)).trans (show _ = some (.int .i64 r.frost) by simp [go_sem])
  have q1 := (hb1.cell (p := ⟨w.heap.size, 1, none⟩) (by show w.heap.size < _; simp; omega)).trans (show _ = some (.int .i64 r.thaw) by simp [go_sem])
  have q2 := (hb1.cell (p := ⟨w.heap.size, 2, none⟩) (by show w.heap.size < _; simp; omega)).trans (show _ = some (.int .i64 r.gain) by simp [go_sem])
  have q3 := (hb1.cell (p := ⟨w.heap.size, 3, none⟩) (by show w.heap.size < _; simp; omega)).trans (show _ = some (.int .i64 r.full) by simp [go_sem])
  have q4 := (hb1.cell (p := ⟨w.heap.size, 4, none⟩) (by show w.heap.size < _; simp; omega)).trans (show _ = some (.int .i64 r.ice) by simp [go_sem])
  have q5 := (hb1.cell (p := ⟨w.heap.size, 5, none⟩) (by show w.heap.size < _; simp; omega)).trans (show _ = some (.int .i64 r.most) by simp [go_sem])
  have q6 := (hb1.cell (p := ⟨w.heap.size, 6, none⟩) (by show w.heap.size < _; simp; omega)).trans (show _ = some (.int .i64 r.melt) by simp [go_sem])
  have q7 := (hb1.cell (p := ⟨w.heap.size, 7, none⟩) (by show w.heap.size < _; simp; omega)).trans (show _ = some (.int .i64 r.rlow) by simp [go_sem])
  have q8 := (hb1.cell (p := ⟨w.heap.size, 8, none⟩) (by show w.heap.size < _; simp; omega)).trans (show _ = some (.int .i64 r.rhigh) by simp [go_sem])
  have q9 := (hb1.cell (p := ⟨w.heap.size, 9, none⟩) (by show w.heap.size < _; simp; omega)).trans (show _ = some (.int .i64 r.pull) by simp [go_sem])
  have s0 := (hb1.cell (p := ⟨w.heap.size + 1, 0, none⟩) (by show w.heap.size + 1 < _; simp)).trans (show _ = some (.int .i64 (c : Int)) by simp [go_sem])
  have s1 := (hb1.cell (p := ⟨w.heap.size + 1, 1, none⟩) (by show w.heap.size + 1 < _; simp)).trans (show _ = some (.int .i64 (i : Int)) by simp [go_sem])
  have t0 := (hb1.frozen (p := ⟨w.heap.size + 1, 0, none⟩) (by show w.heap.size + 1 < _; simp)).trans (show _ = false by simp [go_sem])
  have t1 := (hb1.frozen (p := ⟨w.heap.size + 1, 1, none⟩) (by show w.heap.size + 1 < _; simp)).trans (show _ = false by simp [go_sem])
  have hB1 : Below w.heap.size w w1 := (by (try show Below _ _ _); repeat (first | (with_reducible refine Below.setCell ?_ (by first | omega | (simp <;> omega)) _) | (with_reducible refine Below.alloc ?_ (by first | omega | (simp <;> omega)) _) | (with_reducible refine Below.drew ?_) | (with_reducible exact Below.refl _ _) | (with_reducible refine below_call ?_ (by assumption) (by first | omega | (simp <;> omega))) | (with_reducible refine below_call ?_ (Drew.below (by assumption) _) (by first | omega | (simp <;> omega)))))
  have hl0 : w.heap.size < w1.heap.size := by omega
  have hl1 : w.heap.size + 1 < w1.heap.size := by omega
  clear hb1
  gi_wp2_with fail
  refine (wideC hF (backward_any A n cc _)).mono ?_
  rintro e w2 ⟨rfl, rfl⟩
  gi_wp2
  refine wpIn_named ?_
  intro W6 hW6
  have m0 : W6.cell? ⟨w1.heap.size, 0, none⟩ = some (.int .i64 r.frost) := by rw [hW6]; simp [go_sem]
  have m1 : W6.cell? ⟨w1.heap.size, 1, none⟩ = some (.int .i64 r.thaw) := by rw [hW6]; simp [go_sem]
  have m2 : W6.cell? ⟨w1.heap.size, 2, none⟩ = some (.int .i64 r.gain) := by rw [hW6]; simp [go_sem]
  have m3 : W6.cell? ⟨w1.heap.size, 3, none⟩ = some (.int .i64 r.full) := by rw [hW6]; simp [go_sem]
  have m4 : W6.cell? ⟨w1.heap.size, 4, none⟩ = some (.int .i64 r.ice) := by rw [hW6]; simp [go_sem]
  have m5 : W6.cell? ⟨w1.heap.size, 5, none⟩ = some (.int .i64 r.most) := by rw [hW6]; simp [go_sem]
  have m6 : W6.cell? ⟨w1.heap.size, 6, none⟩ = some (.int .i64 r.melt) := by rw [hW6]; simp [go_sem]
  have m7 : W6.cell? ⟨w1.heap.size, 7, none⟩ = some (.int .i64 r.rlow) := by rw [hW6]; simp [go_sem]
  have m8 : W6.cell? ⟨w1.heap.size, 8, none⟩ = some (.int .i64 r.rhigh) := by rw [hW6]; simp [go_sem]
  have m9 : W6.cell? ⟨w1.heap.size, 9, none⟩ = some (.int .i64 r.pull) := by rw [hW6]; simp [go_sem]
  have mf : W6.cell? ⟨w1.heap.size + 1, 0, none⟩ = some (.func (.func 70) #[] #[]) := by rw [hW6]; simp [go_sem]
  have mc : W6.cell? ⟨w1.heap.size + 1 + 1, 0, none⟩ = some (.func (.func 71) #[] #[.pointer (some ⟨w1.heap.size, 0, none⟩), .pointer (some ⟨w1.heap.size + 1, 0, none⟩)]) := by rw [hW6]; simp [go_sem]
  have ms : W6.cell? ⟨w1.heap.size + 1 + 1 + 1 + 1, 0, none⟩ = some (.slice (some ⟨w1.heap.size + 1 + 1 + 1, 0, none⟩) (n + 1) (n + 1)) := by rw [hW6]; simp [go_sem]
  have mb : W6.cell? ⟨w1.heap.size + 1 + 1 + 1 + 1 + 1, 0, none⟩ = some (.slice A n cc) := by rw [hW6]; simp [go_sem]
  have mr : Wrt W6 (w1.heap.size + 1 + 1 + 1) ((n + 1) * 1891) := ⟨fun o ho => ⟨_, by rw [hW6]; exact al_cell _ (al_cell _ (cell_made (by simp) _ _ o ho))⟩, fun o => by rw [hW6]; exact froz_made (by simp) _ _ _ _ _⟩
  have mz : Rst r W6 (w1.heap.size + 1 + 1 + 1) (n * 1891) (fun _ => 0) := fun a b hs => by
    obtain ⟨h1, h2, h3, h4⟩ := hs
    have := hr.u2; have := hr.m2
    simp only at h1 h2 h3 h4
    rw [hW6]; exact al_cell _ (al_cell _ (cell_made (by simp) _ _ _ (by omega)))
  have hsz6 : W6.heap.size = w1.heap.size + 6 := by rw [hW6]; simp
  have hb6 : Below w1.heap.size w1 W6 := by rw [hW6]; exact (by (try show Below _ _ _); repeat (first | (with_reducible refine Below.setCell ?_ (by first | omega | (simp <;> omega)) _) | (with_reducible refine Below.alloc ?_ (by first | omega | (simp <;> omega)) _) | (with_reducible refine Below.drew ?_) | (with_reducible exact Below.refl _ _) | (with_reducible refine below_call ?_ (by assumption) (by first | omega | (simp <;> omega))) | (with_reducible refine below_call ?_ (Drew.below (by assumption) _) (by first | omega | (simp <;> omega)))))
  clear hW6
  replace q3 := (hb6.cell hl0).trans q3
  replace q5 := (hb6.cell hl0).trans q5
  replace s0 := (hb6.cell hl1).trans s0
  replace s1 := (hb6.cell hl1).trans s1
  replace t0 := (hb6.frozen (p := ⟨w.heap.size + 1, 0, none⟩) hl1).trans t0
  replace t1 := (hb6.frozen (p := ⟨w.heap.size + 1, 1, none⟩) hl1).trans t1
  replace hB1 := hB1.trans (hb6.mono (by omega))
  clear hb6 q0 q1 q2 q4 q6 q7 q8 q9
  obtain ⟨Rb, hRb⟩ : ∃ Rb, Rb = w1.heap.size + 1 + 1 + 1 := ⟨_, rfl⟩
  rw [← hRb] at mr mz
  replace ms : W6.cell? ⟨w1.heap.size + 1 + 1 + 1 + 1, 0, none⟩ = some (.slice (some ⟨Rb, 0, none⟩) (n + 1) (n + 1)) := by rw [hRb]; exact ms
  have hRb1 : w1.heap.size + 3 ≤ Rb := by omega
  have hRb2 : Rb ≤ w1.heap.size + 3 := by omega
  clear hRb
  have hx6 := HX.out.below hB1 (Nat.le_refl _)
  have hx7 : 0 < n → ∀ b o, A = some ⟨b, o, none⟩ → b < W6.heap.size ∧ b ≠ Rb := fun h b o e => by
    obtain ⟨b2, o2, e2, _, hl2, _⟩ := HX.out (by have := hn.out; omega)
    rw [e] at e2
    cases e2
    omega
  have Wfu := Lib.hid (show wrap64 (r.full + 1) = r.full + 1 from IntWalk.wrap64_in _ ⟨by have := hr.u1; omega, by have := hr.u2; omega⟩)
  have Wmo := Lib.hid (show wrap64 (r.most + 1) = r.most + 1 from IntWalk.wrap64_in _ ⟨by have := hr.m1; omega, by have := hr.m2; omega⟩)
  clear wn
  have hdn : ts.drop n = [] := List.drop_eq_nil_of_le (Nat.le_of_eq hn.out)
  have hz0 : ∀ j, n - ([] : List (Nat × R)).length ≤ j → j ≤ n → Rst r W6 Rb (j * 1891) (restS r true (ts.drop j)) := fun j h1 h2 => by
    have e : j = n := Nat.le_antisymm h2 h1
    rw [e, hdn]
    exact mz
  clear mz hdn
  refine wpIn_range_allB hro (by omega) (gf := 91) (fs := #[]) (lb := #[.pointer (some ⟨w1.heap.size + 1 + 1 + 1 + 1 + 1, 0, none⟩)]) rfl (hFn _) (enters_of Try.func91 (by kernel_rfl) rfl)
    (back_gives F (nn - 1) (hFn _) hro (by omega) (w1.heap.size + 1 + 1 + 1 + 1 + 1) W6.heap.size Rb A n cc lo ts W6 (Nat.le_refl _) hn hn1000 (by omega) (by omega) mb hx6 hx7) (Nat.le_refl _) (Below.refl _ _) (fun _ => rfl)
    (fun pre W => W6.grownBy W (some Rb) ∧ Wrt W Rb ((n + 1) * 1891) ∧ ∀ j, n - pre.length ≤ j → j ≤ n → Rst r W Rb (j * 1891) (restS r true (ts.drop j)))
    (fun s X Y row hs hg hrr => by
      have hk := blk_kept (hs.2.1.1 0 (by omega)).choose_spec hg (fun k e => (hrr k e).2)
      exact ⟨grown_tr hs.1 hg (fun k e => Or.inl (hrr k e).1), hs.2.1.same hk, fun j h1 h2 => (hs.2.2 j h1 h2).same hk⟩)
    ⟨grown_refl _ _, mr, hz0⟩ ?round ?done
  case round =>
    rintro l pre x W hsz ⟨hgw, hwr, hrs⟩ hpre
    obtain ⟨hpl, rfl⟩ := back_next hpre
    have hnn2 := hn.out
    obtain ⟨idx, hidx⟩ : ∃ idx, ts.length - 1 - pre.length = idx := ⟨_, rfl⟩
    rw [hidx]
    have hi1 : idx < ts.length := by omega
    have hdrop : ts.drop idx = (ts[idx]?.getD R.d) :: ts.drop (idx + 1) := by rw [List.drop_eq_getElem_cons hi1, List.getElem?_eq_getElem hi1]; rfl
    rcases ht : ts[idx]?.getD R.d with ⟨tl, th⟩
    rw [ht] at hdrop
    clear ht
    simp only [encB, R.val]
    gi_wp2
    refine ⟨(KeepsOthers.alloc _ _).from _, KB.of_below (by (try show Below _ _ _); repeat (first | (with_reducible refine Below.setCell ?_ (by first | omega | (simp <;> omega)) _) | (with_reducible refine Below.alloc ?_ (by first | omega | (simp <;> omega)) _) | (with_reducible refine Below.drew ?_) | (with_reducible exact Below.refl _ _) | (with_reducible refine below_call ?_ (by assumption) (by first | omega | (simp <;> omega))) | (with_reducible refine below_call ?_ (Drew.below (by assumption) _) (by first | omega | (simp <;> omega))))), ?_⟩
    intro W2 ht
    have hz2 := ht.size
    simp only [World.size_alloc] at hz2
    have x0 := ht.cell ⟨W.heap.size, 0, none⟩ (.int .i64 tl) (by simp [go_sem])
    have x1 := ht.cell ⟨W.heap.size, 1, none⟩ (.int .i64 th) (by simp [go_sem])
    have hg2 : W6.grownBy W2 (some Rb) := grown_below (grown_tr hgw (World.grownBy_alloc W _ none) (fun r e => by cases e)) ht.below
    obtain ⟨v9, hv9⟩ := hwr.1 0 (by omega)
    have hgs := hgw.size
    have hblk : W2.heap[Rb]? = W.heap[Rb]? := (ht.blk (al_cell _ hv9)).trans (Below.heap_alloc _ _ _ (by omega))
    replace hwr := hwr.same hblk
    replace hrs : ∀ j, idx + 1 ≤ j → j ≤ n → Rst r W2 Rb (j * 1891) (restS r true (ts.drop j)) := fun j h1 h2 => (hrs j (by omega) h2).same hblk
    clear ht hblk hv9
    replace m0 := gcell hg2 m0 (by omega)
    replace m1 := gcell hg2 m1 (by omega)
    replace m2 := gcell hg2 m2 (by omega)
    replace m3 := gcell hg2 m3 (by omega)
    replace m4 := gcell hg2 m4 (by omega)
    replace m5 := gcell hg2 m5 (by omega)
    replace m6 := gcell hg2 m6 (by omega)
    replace m7 := gcell hg2 m7 (by omega)
    replace m8 := gcell hg2 m8 (by omega)
    replace m9 := gcell hg2 m9 (by omega)
    replace mf := gcell hg2 mf (by omega)
    replace mc := gcell hg2 mc (by omega)
    replace ms := gcell hg2 ms (by omega)
    replace q3 := gcell hg2 q3 (by omega)
    replace q5 := gcell hg2 q5 (by omega)
    have hgs2 := hg2.size
    obtain ⟨xb, hxb⟩ : ∃ xb, xb = W.heap.size := ⟨_, rfl⟩
    have hxb1 : W6.heap.size ≤ xb := by omega
    have hxb2 : xb < W2.heap.size := by omega
    rw [← hxb] at x0 x1 ⊢
    clear hxb
    have hRbW : Rb < W2.heap.size := by omega
    have hRb6 := Lib.hid (show Rb < W6.heap.size by omega)
    have h62 := Lib.hid hgs2
    have nb0 : w1.heap.size ≠ Rb := by omega
    have nb1 : w1.heap.size + 1 ≠ Rb := by omega
    have nb2 : w1.heap.size + 1 + 1 ≠ Rb := by omega
    have nb4 : w1.heap.size + 1 + 1 + 1 + 1 ≠ Rb := by omega
    have nbx : xb ≠ Rb := by omega
    have nbw : w.heap.size ≠ Rb := by omega
    have nbl0 := Lib.hid (show w1.heap.size < Rb by omega)
    have nbl1 := Lib.hid (show w1.heap.size + 1 < Rb by omega)
    have hidn : idx < n := by omega
    have hid5 : idx ≤ 5000 := Nat.le_trans (Nat.le_of_lt hidn) (Nat.le_trans hn1000 (by decide))
    have Wk1 := Lib.hid (wrapI2 idx hid5)
    have Wk2 := Lib.hid (wrapI1 idx hid5)
    have hjj := Lib.hid (show ∀ j, n - (pre.length + 1) ≤ j → idx ≤ j from fun j h => by omega)
    have hdl : ts.length - (idx + 1) ≤ 1000 := by omega
    clear hz1 hl0 hl1 hsz6 hRb1 hRb2 hsz hgs hz2 hxb1 hxb2 hgs2 hc hi hlen hl hnn hnn2 hpl hidx hsk hbk hi1 hpre hx7 hz0 hid5
    have hV := restS_bd r true (ts.drop (idx + 1))
    have hV2 : ∀ s, 0 ≤ restS r true (ts.drop (idx + 1)) s ∧ restS r true (ts.drop (idx + 1)) s ≤ 2000 := fun s => by have := hV s; rw [List.length_drop] at this; omega
    have hVi : restS r true (ts.drop idx) = fun s => (bestS r true tl th (restS r true (ts.drop (idx + 1))) s).2 := by rw [hdrop]; rfl
    have hch := fun (a b : Nat) hst w h1 h2 h3 h4 p0 p1 p2 p3 p4 p5 p6 p7 p8 p9 pf => choose_any r hr true (restS r true (ts.drop (idx + 1))) hV2 a b hst tl th Rb ((idx + 1) * 1891) w1.heap.size (w1.heap.size + 1) w h1 h2 h3 h4 p0 p1 p2 p3 p4 p5 p6 p7 p8 p9 pf
    have HVi := Lib.hid hVi
    have HRS := Lib.hid hrs
    have HQ := Lib.hid (And.intro m0 (And.intro m1 (And.intro m2 (And.intro m3 (And.intro m4 (And.intro m5 (And.intro m6 (And.intro m7 (And.intro m8 (And.intro m9 (And.intro mf (And.intro mc (And.intro ms (And.intro q3 (And.intro q5 (And.intro x0 x1))))))))))))))))
    clear hV hV2 hVi hrs hdrop m0 m1 m2 m3 m4 m5 m6 m7 m8 m9 mf mc ms x0 x1
    generalize hVV : restS r true (ts.drop (idx + 1)) = V at hch HVi
    have hfu1 := hr.u1; have hfu2 := hr.u2; have hmo1 := hr.m1; have hmo2 := hr.m2
    have wfu := Wfu.out
    gi_wp2
    clear wfu
    gi_loopw [46] (fun ii wr => ∃ c' : Nat, (c' : Int) ≤ r.full + 1 ∧ ii = .int .i64 c' ∧ Aside (W2.grownBy wr (some Rb)) ∧ Aside (Wrt wr Rb ((n + 1) * 1891)) ∧ Aside (∀ j, idx + 1 ≤ j → j ≤ n → Rst r wr Rb (j * 1891) (restS r true (ts.drop j))) ∧ Aside (Done r wr Rb (idx * 1891) (fun s => (bestS r true tl th V s).2) c' 0))
      (fun ii _ => 70 - (intOf ii).toNat)
    case atStart => exact ⟨0, by omega, rfl, grown_refl _ _, hwr, HRS.out, fun x y hs hh => by omega⟩
    case round =>
      obtain ⟨c', hc1, rfl, hgr, hwk, hlat, hdo⟩ := hrel
      by_cases hlt : (c' : Int) < r.full + 1
      · obtain ⟨m0, m1, m2, m3, m4, m5, m6, m7, m8, m9, mf, mc, ms, q3, q5, x0, x1⟩ := HQ.out
        replace q5 := gcell hgr.out q5 nbw
        have wmo := Wmo.out
        gi_wp2
        clear wmo
        gi_loopw [52] (fun ii wr => ∃ i' : Nat, (i' : Int) ≤ r.most + 1 ∧ ii = .int .i64 i' ∧ Aside (W2.grownBy wr (some Rb)) ∧ Aside (Wrt wr Rb ((n + 1) * 1891)) ∧ Aside (∀ j, idx + 1 ≤ j → j ≤ n → Rst r wr Rb (j * 1891) (restS r true (ts.drop j))) ∧ Aside (Done r wr Rb (idx * 1891) (fun s => (bestS r true tl th V s).2) c' i'))
          (fun ii _ => 70 - (intOf ii).toNat)
        case atStart => exact ⟨0, by omega, rfl, hgr, hwk, hlat, hdo⟩
        case round =>
          obtain ⟨i', hi1', rfl, hgr2, hwk2, hlat2, hdo2⟩ := hrel
          by_cases hlt2 : (i' : Int) < r.most + 1
          · have hst2 : stIn r ((c' : Int), (i' : Int)) := ⟨by omega, by omega, by omega, by omega⟩
            replace m0 := gcell hgr2.out m0 nb0
            replace m1 := gcell hgr2.out m1 nb0
            replace m2 := gcell hgr2.out m2 nb0
            replace m3 := gcell hgr2.out m3 nb0
            replace m4 := gcell hgr2.out m4 nb0
            replace m5 := gcell hgr2.out m5 nb0
            replace m6 := gcell hgr2.out m6 nb0
            replace m7 := gcell hgr2.out m7 nb0
            replace m8 := gcell hgr2.out m8 nb0
            replace m9 := gcell hgr2.out m9 nb0
            replace mf := gcell hgr2.out mf nb1
            replace mc := gcell hgr2.out mc nb2
            replace ms := gcell hgr2.out ms nb4
            replace x0 := gcell hgr2.out x0 nbx
            replace x1 := gcell hgr2.out x1 nbx
            have hgs3 := hgr2.out.size
            have hRst := hlat2.out (idx + 1) (Nat.le_refl _) (by omega)
            rw [hVV] at hRst
            have hcall := fun W h1 h4 p0 p1 p2 p3 p4 p5 p6 p7 p8 p9 pf => hch c' i' hst2 W h1 (Nat.lt_of_lt_of_le nbl0.out (Nat.le_of_lt h1)) (Nat.lt_of_lt_of_le nbl1.out (Nat.le_of_lt h1)) h4 p0 p1 p2 p3 p4 p5 p6 p7 p8 p9 pf
            have hoff : idx * 1891 + c' * 31 + i' < (n + 1) * 1891 := off_lt hidn (by omega) (by omega)
            obtain ⟨v8, hv8⟩ := hwk2.out.1 _ hoff
            have hf8 := hwk2.out.2 (idx * 1891 + c' * 31 + i')
            have z1 : (0 : Int) ≤ (idx : Int) := Int.natCast_nonneg _
            have z2 : (idx : Int) < (n : Int) + 1 := by omega
            have z3 : (0 : Int) ≤ (idx : Int) + 1 := by omega
            have z4 : (idx : Int) + 1 < (n : Int) + 1 := by omega
            have z5 : (0 : Int) ≤ (c' : Int) := Int.natCast_nonneg _
            have z6 : (c' : Int) < 61 := by omega
            have z7 : (0 : Int) ≤ (i' : Int) := Int.natCast_nonneg _
            have z8 : (i' : Int) < 31 := by omega
            have hk1 := Wk1.out
            have hk2 := Wk2.out
            gi_wp2_with fail
            have hAll : Aside (∀ W, wr.grownBy W (some Rb) → (wr.grownBy W (some Rb) ∧ W.cell? ⟨w1.heap.size + 1 + 1 + 1 + 1, 0, none⟩ = some (.slice (some ⟨Rb, 0, none⟩) (n + 1) (n + 1)) ∧ W.cell? ⟨w1.heap.size + 1 + 1, 0, none⟩ = some (.func (.func 71) #[] #[.pointer (some ⟨w1.heap.size, 0, none⟩), .pointer (some ⟨w1.heap.size + 1, 0, none⟩)]) ∧ W.cell? ⟨xb, 0, none⟩ = some (.int .i64 tl) ∧ W.cell? ⟨xb, 1, none⟩ = some (.int .i64 th))) := fun W h => ⟨h, gcell h ms nb4, gcell h mc nb2, gcell h x0 nbx, gcell h x1 nbx⟩
            refine region_lift (S := fun W => wr.grownBy W (some Rb) ∧ W.cell? ⟨w1.heap.size + 1 + 1 + 1 + 1, 0, none⟩ = some (.slice (some ⟨Rb, 0, none⟩) (n + 1) (n + 1)) ∧ W.cell? ⟨w1.heap.size + 1 + 1, 0, none⟩ = some (.func (.func 71) #[] #[.pointer (some ⟨w1.heap.size, 0, none⟩), .pointer (some ⟨w1.heap.size + 1, 0, none⟩)]) ∧ W.cell? ⟨xb, 0, none⟩ = some (.int .i64 tl) ∧ W.cell? ⟨xb, 1, none⟩ = some (.int .i64 th)) hF (by kernel_rfl) (by kernel_rfl) ?_ (hAll.out _ (grown_drew _ _)) (fun hS0 => ?_)
            · rintro ⟨_, _, h⟩; exact h
            (try go_simp)
            refine wpAnyH_take (i := 0) (v := ?_) rfl (by kernel_rfl) (by kernel_rfl) (by kernel_rfl) (fun _ _ _ h => h) (Or.inl ⟨by rfl, ?_⟩) hS0 ?_
            rotate_left
            · (intro W hSw; (try dsimp only at hSw); go_split_ands; go_simp; (try with_reducible rfl))
            (try go_simp)
            (try go_simp)
            refine wpAnyH_take (i := 1) (v := ?_) rfl (by kernel_rfl) (by kernel_rfl) (by kernel_rfl) (fun _ _ _ h => h) (Or.inl ⟨by rfl, ?_⟩) hS0 ?_
            rotate_left
            · (intro W hSw; (try dsimp only at hSw); go_split_ands; go_simp; (try with_reducible rfl))
            (try go_simp)
            (try go_simp)
            refine wpAnyH_take (i := 2) (v := ?_) rfl (by kernel_rfl) (by kernel_rfl) (by kernel_rfl) (fun _ _ _ h => h) (Or.inl ⟨by rfl, ?_⟩) hS0 ?_
            rotate_left
            · (intro W hSw; (try dsimp only at hSw); go_split_ands; go_simp; (try with_reducible rfl))
            (try go_simp)
            (try go_simp)
            refine wpAnyH_take (i := 3) (v := ?_) rfl (by kernel_rfl) (by kernel_rfl) (by kernel_rfl) (fun _ _ _ h => h) (Or.inl ⟨by rfl, ?_⟩) hS0 ?_
            rotate_left
            · (intro W hSw; (try dsimp only at hSw); go_split_ands; go_simp; (try with_reducible rfl))
            (try go_simp)
            (try go_simp)
            refine wpAnyH_take (i := 4) (v := ?_) rfl (by kernel_rfl) (by kernel_rfl) (by kernel_rfl) (fun _ _ _ h => h) (Or.inl ⟨by rfl, ?_⟩) hS0 ?_
            rotate_left
            · (intro W hSw; (try dsimp only at hSw); go_split_ands; go_simp; (try with_reducible rfl))
            (try go_simp)
            (try go_simp)
            refine wpAnyH_take (i := 5) (v := ?_) rfl (by kernel_rfl) (by kernel_rfl) (by kernel_rfl) (fun _ _ _ h => h) (Or.inl ⟨by rfl, ?_⟩) hS0 ?_
            rotate_left
            · (intro W hSw; (try dsimp only at hSw); go_split_ands; go_simp; (try with_reducible rfl))
            (try go_simp)
            (try go_simp)
            refine wpAnyH_take (i := 6) (v := ?_) rfl (by kernel_rfl) (by kernel_rfl) (by kernel_rfl) (fun _ _ _ h => h) (Or.inl ⟨by rfl, ?_⟩) hS0 ?_
            rotate_left
            · (intro W hSw; (try dsimp only at hSw); go_split_ands; go_simp; (try with_reducible rfl))
            (try go_simp)
            (try go_simp)
            refine wpAnyH_take (i := 7) (v := ?_) rfl (by kernel_rfl) (by kernel_rfl) (by kernel_rfl) (fun _ _ _ h => h) (Or.inl ⟨by rfl, ?_⟩) hS0 ?_
            rotate_left
            · (intro W hSw; (try dsimp only at hSw); go_split_ands; go_simp; (try with_reducible rfl))
            (try go_simp)
            (try go_simp)
            refine wpAnyH_take (i := 8) (v := ?_) rfl (by kernel_rfl) (by kernel_rfl) (by kernel_rfl) (fun _ _ _ h => h) (Or.inl ⟨by rfl, ?_⟩) hS0 ?_
            rotate_left
            · (intro W hSw; (try dsimp only at hSw); go_split_ands; go_simp; (try with_reducible rfl))
            (try go_simp)
            (try go_simp)
            refine wpAnyH_take (i := 9) (v := ?_) rfl (by kernel_rfl) (by kernel_rfl) (by kernel_rfl) (fun _ _ _ h => h) (Or.inl ⟨by rfl, ?_⟩) hS0 ?_
            rotate_left
            · (intro W hSw; (try dsimp only at hSw); go_split_ands; go_simp; (try with_reducible rfl))
            (try go_simp)
            (try go_simp)
            refine wpAnyH_take (i := 10) (v := ?_) rfl (by kernel_rfl) (by kernel_rfl) (by kernel_rfl) (fun _ _ _ h => h) (Or.inl ⟨by rfl, ?_⟩) hS0 ?_
            rotate_left
            · (intro W hSw; (try dsimp only at hSw); go_split_ands; go_simp; (try with_reducible rfl))
            (try go_simp)
            (try go_simp)
            refine wpAnyH_take (i := 11) (v := ?_) rfl (by kernel_rfl) (by kernel_rfl) (by kernel_rfl) (fun _ _ _ h => h) (Or.inl ⟨by rfl, ?_⟩) hS0 ?_
            rotate_left
            · (intro W hSw; (try dsimp only at hSw); go_split_ands; go_simp; (try with_reducible rfl))
            (try go_simp)
            (try go_simp)
            refine wpAnyH_take (i := 12) (v := ?_) rfl (by kernel_rfl) (by kernel_rfl) (by kernel_rfl) (fun _ _ _ h => h) (Or.inl ⟨by rfl, ?_⟩) hS0 ?_
            rotate_left
            · (intro W hSw; (try dsimp only at hSw); go_split_ands; go_simp; (try with_reducible rfl))
            (try go_simp)
            (try go_simp)
            refine wpAnyH_take (i := 17) (v := ?_) rfl (by kernel_rfl) (by kernel_rfl) (by kernel_rfl) (fun _ _ _ h => h) (Or.inl ⟨by rfl, ?_⟩) hS0 ?_
            rotate_left
            · (intro W hSw; (try dsimp only at hSw); go_split_ands; go_simp; (try with_reducible rfl))
            (try go_simp)
            (try go_simp)
            refine wpAnyH_take (i := 18) (v := ?_) rfl (by kernel_rfl) (by kernel_rfl) (by kernel_rfl) (fun _ _ _ h => h) (Or.inl ⟨by rfl, ?_⟩) hS0 ?_
            rotate_left
            · (intro W hSw; (try dsimp only at hSw); go_split_ands; go_simp; (try with_reducible rfl))
            (try go_simp)
            refine wpAnyH_ready (rs := [13]) (by kernel_rfl) (by simp) ?_
            refine (AllReadyH.cons rfl (fun K hK => ?_) AllReadyH.nil)
            go_simp
            have hRbw2 : Rb < wr.drew.heap.size := Nat.lt_of_lt_of_le hRbW hgs3
            go_wp2_with (go_at_call 71; refine (hcall _ hRbw2 hRst m0 m1 m2 m3 m4 m5 m6 m7 m8 m9 mf).mono ?_; rintro e w5 ⟨rfl, hb5⟩; have g5 : wr.grownBy w5 (some Rb) := grown_below (grown_drew wr _) hb5)
            refine hK.out _ _ (hAll.out _ g5) (fun hS1 => ?_)
            clear hK K
            (try go_simp)
            (try go_simp)
            refine wpAnyH_take (i := 14) (v := ?_) rfl (by kernel_rfl) (by kernel_rfl) (by kernel_rfl) (fun _ _ _ h => h) (Or.inl ⟨by rfl, ?_⟩) hS1 ?_
            rotate_left
            · (intro W hSw; (try dsimp only at hSw); go_split_ands; go_simp; (try with_reducible rfl))
            (try go_simp)
            (try go_simp)
            refine wpAnyH_take (i := 15) (v := ?_) rfl (by kernel_rfl) (by kernel_rfl) (by kernel_rfl) (fun _ _ _ h => h) (Or.inl ⟨by rfl, ?_⟩) hS1 ?_
            rotate_left
            · (intro W hSw; (try dsimp only at hSw); go_split_ands; go_simp; (try with_reducible rfl))
            (try go_simp)
            (try go_simp)
            refine wpAnyH_take (i := 16) (v := ?_) rfl (by kernel_rfl) (by kernel_rfl) (by kernel_rfl) (fun _ _ _ h => h) (Or.inl ⟨by rfl, ?_⟩) hS1 ?_
            rotate_left
            · (intro W hSw; (try dsimp only at hSw); go_split_ands; go_simp; (try with_reducible rfl))
            (try go_simp)
            (try go_simp)
            refine wpAnyH_take (i := 19) (v := ?_) rfl (by kernel_rfl) (by kernel_rfl) (by kernel_rfl) (fun _ _ _ h => h) (Or.inl ⟨by rfl, ?_⟩) hS1 ?_
            rotate_left
            · (intro W hSw; (try dsimp only at hSw); go_split_ands; go_simp; (try with_reducible rfl))
            (try go_simp)
            refine wpAnyH_ready (rs := [20]) (by kernel_rfl) (by simp) ?_
            refine (AllReadyH.cons rfl (fun K hK => ?_) AllReadyH.nil)
            go_simp
            have hw5 : Wrt w5 Rb ((n + 1) * 1891) := Wrt.below (W := wr.drew) hwk2.out hb5 hRbw2
            obtain ⟨v7, hv7⟩ := hw5.1 _ hoff
            have hf7 := hw5.2 (idx * 1891 + c' * 31 + i')
            go_simp
            have g8 := grown_tr g5 (grown_set w5 Rb (idx * 1891 + c' * 31 + i') (.int .i16 (bestS r true tl th V ((c' : Int), (i' : Int))).2)) (fun r e => Or.inr (by cases e; rfl))
            have hw8 := hw5.set (idx * 1891 + c' * 31 + i') (.int .i16 (bestS r true tl th V ((c' : Int), (i' : Int))).2)
            have hd8 := Done.set (V := fun s => (bestS r true tl th V s).2) hr (Done.same (W := wr) hdo2.out (hb5.block Rb hRbw2)) hw5 (by omega) hoff
            have hl8 : ∀ j, idx + 1 ≤ j → j ≤ n → Rst r (w5.setCell ⟨Rb, idx * 1891 + c' * 31 + i', none⟩ (.int .i16 (bestS r true tl th V ((c' : Int), (i' : Int))).2)) Rb (j * 1891) (restS r true (ts.drop j)) := fun j h1 h2 => by
              have := Rst.set hr (idx := idx) (p := c' * 31 + i') (Rst.below (W := wr.drew) (hlat2.out j h1 h2) hb5 hRbw2) h1 (by omega) (.int .i16 (bestS r true tl th V ((c' : Int), (i' : Int))).2)
              rwa [← Nat.add_assoc] at this
            refine hK.out _ _ (hAll.out _ g8) (fun hS5 => ?_)
            clear hK K hv7 hf7
            refine wpAnyH_done (by kernel_rfl) ?_ _
            gi_wp2
            go_roundw
            case rel => exact ⟨i' + 1, by omega, by go_num, grown_tr hgr2.out g8 (fun r e => Or.inr (by cases e; rfl)), hw8, hl8, hd8⟩
            case measure => (simp [intOf]; omega)
          · have e2 : (i' : Int) = r.most + 1 := by omega
            gi_wp2
            go_roundw
            case rel =>
              refine ⟨c' + 1, by omega, by go_num, hgr2, hwk2, hlat2, fun x y hs hh => hdo2.out x y hs ?_⟩
              have := hs.2.2.2
              simp only at this
              omega
            case measure => (simp [intOf]; omega)
      · have e2 : (c' : Int) = r.full + 1 := by omega
        gi_wp2
        refine ⟨KeepsFrom.of_grownBy hgr.out (fun j e => by cases e; exact hRb6.out), KB.of_grown hgr.out h62.out, grown_tr hg2 hgr.out (fun r e => Or.inr (by cases e; rfl)), hwk.out, fun j h1 h2 => ?_⟩
        have hij : idx ≤ j := hjj.out j (by first | omega | (simp at h1; omega))
        by_cases hj : j = idx
        · subst hj
          rw [HVi.out]
          intro x y hs
          exact hdo.out x y hs (Or.inl (by have := hs.2.1; simp only at this; omega))
        · exact hlat.out j (by omega) h2
  case done =>
    rintro D W hD ⟨hgw, hwr, hrs⟩ hK
    rw [backL_len] at hrs
    have hgs := hgw.size
    replace hrs : ∀ j, j ≤ n → Rst r W Rb (j * 1891) (restS r true (ts.drop j)) := fun j h => hrs j (by have := hn.out; omega) h
    replace m0 := gcell hgw m0 (by omega)
    replace m1 := gcell hgw m1 (by omega)
    replace m2 := gcell hgw m2 (by omega)
    replace m3 := gcell hgw m3 (by omega)
    replace m4 := gcell hgw m4 (by omega)
    replace m5 := gcell hgw m5 (by omega)
    replace m6 := gcell hgw m6 (by omega)
    replace m7 := gcell hgw m7 (by omega)
    replace m8 := gcell hgw m8 (by omega)
    replace m9 := gcell hgw m9 (by omega)
    replace mf := gcell hgw mf (by omega)
    replace mc := gcell hgw mc (by omega)
    replace ms := gcell hgw ms (by omega)
    replace s0 := gcell hgw s0 (by omega)
    replace s1 := gcell hgw s1 (by omega)
    replace t0 := (hgw.frozen_far ⟨w.heap.size + 1, 0, none⟩ (by show w.heap.size + 1 < _; omega) (by simp; omega)).trans t0
    replace t1 := (hgw.frozen_far ⟨w.heap.size + 1, 1, none⟩ (by show w.heap.size + 1 < _; omega) (by simp; omega)).trans t1
    have hBW : Aside (Below w.heap.size w W) := hB1.trans (grown_bel hgw (by omega) (by omega))
    have hDlt : D < W.heap.size := (Array.getElem?_eq_some_iff.1 hK).1
    have nD : D ≠ w.heap.size + 1 := by omega
    have HD := Lib.hid (show w.heap.size ≤ D by omega)
    have nb0 : w1.heap.size ≠ w.heap.size + 1 := by omega
    have nb1 : w1.heap.size + 1 ≠ w.heap.size + 1 := by omega
    have nb2 : w1.heap.size + 1 + 1 ≠ w.heap.size + 1 := by omega
    have nb4 : w1.heap.size + 1 + 1 + 1 + 1 ≠ w.heap.size + 1 := by omega
    have nbR : Rb ≠ w.heap.size + 1 := by omega
    have nr0 : w1.heap.size ≠ Rb := by omega
    have nr1 : w1.heap.size + 1 ≠ Rb := by omega
    have nr2 : w1.heap.size + 1 + 1 ≠ Rb := by omega
    have nr4 : w1.heap.size + 1 + 1 + 1 + 1 ≠ Rb := by omega
    have nrb : w.heap.size + 1 ≠ Rb := by omega
    have hlR : Rb < W.heap.size := by omega
    have hlb1 : w.heap.size + 1 < W.heap.size := by omega
    have nl0 := Lib.hid (show w1.heap.size < Rb by omega)
    have nl1 := Lib.hid (show w1.heap.size + 1 < Rb by omega)
    have nl4 := Lib.hid (show w1.heap.size + 1 + 1 + 1 + 1 < W.heap.size by omega)
    have hwW := Lib.hid (show w.heap.size ≤ W.heap.size by omega)
    have hnl : ∀ j, j ≤ n → ts.length - j ≤ 1000 := fun j h => by have := hn.out; omega
    have HNL := Lib.hid hnl
    have HRS := Lib.hid hrs
    have HKD := Lib.hid hK
    have h1nn : 1 ≤ nn := by omega
    have HQ := Lib.hid (And.intro m0 (And.intro m1 (And.intro m2 (And.intro m3 (And.intro m4 (And.intro m5 (And.intro m6 (And.intro m7 (And.intro m8 (And.intro m9 (And.intro mf (And.intro mc ms))))))))))))
    clear hz1 hl0 hl1 hsz6 hRb1 hRb2 hgs hc hi hlen hl hnn hx7 hz0 hx6 hB1 q3 q5 mr mb hrs hK m0 m1 m2 m3 m4 m5 m6 m7 m8 m9 mf mc ms hD hgw hwr hnl
    gi_wp2
    gi_loopw [19, 79] (fun v ii wr => ∃ (k x y : Nat) (acc : List Int), k ≤ n ∧ ii = .int .i64 k ∧ Aside (extS r true ts ((c : Int), (i : Int)) = acc ++ extS r true (ts.drop k) ((x : Int), (y : Int))) ∧ Aside (acc.length = k) ∧ Aside (stIn r ((x : Int), (y : Int))) ∧ Aside (Own1 (Value.int .i64) 43 wr W.heap.size v acc) ∧ Aside (W.grownBy wr (some (w.heap.size + 1))) ∧
      wr.cell? ⟨w.heap.size + 1, 0, none⟩ = some (.int .i64 (x : Int)) ∧ wr.cell? ⟨w.heap.size + 1, 1, none⟩ = some (.int .i64 (y : Int)) ∧ wr.frozen? ⟨w.heap.size + 1, 0, none⟩ = false ∧ wr.frozen? ⟨w.heap.size + 1, 1, none⟩ = false)
      (fun v ii _ => n - (intOf ii).toNat)
    case atStart =>
      exact ⟨0, c, i, [], Nat.zero_le _, rfl, rfl, rfl, HS.out, Own1.nil _ _ _ _, grown_refl _ _, s0, s1, t0, t1⟩
    case round =>
      obtain ⟨k, x, y, acc, hk, rfl, hE, hA, hst2, hO, hG, s0, s1, t0, t1⟩ := hrel
      obtain ⟨Av, cv, hv, hvl, hvm, hvn, hvE⟩ := hO.out.reads 0
      subst hv
      obtain ⟨m0, m1, m2, m3, m4, m5, m6, m7, m8, m9, mf, mc, ms⟩ := HQ.out
      replace m0 := gcell hG.out m0 nb0
      replace m1 := gcell hG.out m1 nb0
      replace m2 := gcell hG.out m2 nb0
      replace m3 := gcell hG.out m3 nb0
      replace m4 := gcell hG.out m4 nb0
      replace m5 := gcell hG.out m5 nb0
      replace m6 := gcell hG.out m6 nb0
      replace m7 := gcell hG.out m7 nb0
      replace m8 := gcell hG.out m8 nb0
      replace m9 := gcell hG.out m9 nb0
      replace mf := gcell hG.out mf nb1
      replace mc := gcell hG.out mc nb2
      replace ms := gcell hG.out ms nb4
      have hgs := hG.out.size
      by_cases hlt : k < n
      · have hnn3 := hn.out
        obtain ⟨bb, oo, hAA, _, hlb, hcs⟩ := HX.out (by omega)
        subst hAA
        have hi1 : k < ts.length := by omega
        have e0 := gcell hG.out ((hBW.out.cell (p := ⟨bb, oo + k * 2 + 0, none⟩) hlb).trans (hcs k 0 hi1 (by omega))) (by omega)
        have e1 := gcell hG.out ((hBW.out.cell (p := ⟨bb, oo + k * 2 + 1, none⟩) hlb).trans (hcs k 1 hi1 (by omega))) (by omega)
        have hdrop : ts.drop k = (ts[k]?.getD R.d) :: ts.drop (k + 1) := by rw [List.drop_eq_getElem_cons hi1, List.getElem?_eq_getElem hi1]; rfl
        have hokt := List.all_eq_true.1 HO.out (ts[k]?.getD R.d) (by rw [List.getElem?_eq_getElem hi1]; exact List.getElem_mem _)
        rcases htt : ts[k]?.getD R.d with ⟨tl, th⟩
        rw [htt] at e0 e1 hdrop hokt
        simp only [R.cell, Nat.add_zero, if_true, Nat.one_ne_zero, if_false] at e0 e1
        have hle := okT_le hokt
        have hV := restS_bd r true (ts.drop (k + 1))
        have hnl2 := HNL.out (k + 1) hlt
        have hV2 : ∀ s, 0 ≤ restS r true (ts.drop (k + 1)) s ∧ restS r true (ts.drop (k + 1)) s ≤ 2000 := fun s => by have := hV s; rw [List.length_drop] at this; omega
        have hE2 := hE.out
        rw [hdrop] at hE2
        simp only [extS] at hE2
        have hkd := bestS_kind hr (most := true) (V := restS r true (ts.drop (k + 1))) (s := ((x : Int), (y : Int))) hle
        have hRst : Rst r wr Rb ((k + 1) * 1891) (restS r true (ts.drop (k + 1))) := (HRS.out (k + 1) hlt).same (hG.out.block Rb hlR (fun e => nbR (by cases e; rfl)))
        have hch := fun w h1 h2 h3 h4 p0 p1 p2 p3 p4 p5 p6 p7 p8 p9 pf => choose_any r hr true (restS r true (ts.drop (k + 1))) hV2 x y hst2.out tl th Rb ((k + 1) * 1891) w1.heap.size (w1.heap.size + 1) w h1 h2 h3 h4 p0 p1 p2 p3 p4 p5 p6 p7 p8 p9 pf
        generalize hbv : bestS r true tl th (restS r true (ts.drop (k + 1))) ((x : Int), (y : Int)) = bv at hch hE2 hkd
        obtain ⟨kd, vl⟩ := bv
        simp only at hch hE2 hkd
        have hstep := hstp x y kd hkd hst2.out
        have hsi := stepT_in hr hst2.out (k := kd)
        rcases hsr : stepT r ((x : Int), (y : Int)) kd with ⟨⟨x2, y2⟩, ran⟩
        rw [hsr] at hstep hsi hE2
        obtain ⟨z1, z2, z3, z4⟩ := hsi
        simp only at z1 z2 z3 z4 hE2
        obtain ⟨x2, rfl⟩ := Int.eq_ofNat_of_zero_le z1
        obtain ⟨y2, rfl⟩ := Int.eq_ofNat_of_zero_le z3
        have hst3 := Lib.hid (show stIn r ((x2 : Int), (y2 : Int)) from ⟨z1, z2, z3, z4⟩)
        simp only [sV] at hstep
        have HE2 := Lib.hid hE2
        have hltz : (k : Int) < (n : Int) := by omega
        have hi0 : (0 : Int) ≤ (k : Int) := Int.natCast_nonneg _
        have hk5 : k ≤ 5000 := by omega
        have hlbr : bb < wr.heap.size := Nat.lt_of_lt_of_le hlb (Nat.le_trans hwW.out hgs)
        have Wk1 := Lib.hid (wrapI2 k hk5)
        have Wk2 := Lib.hid (wrapI1 k hk5)
        have u1 : (0 : Int) ≤ (k : Int) + 1 := by omega
        have u2 : (k : Int) + 1 < (n : Int) + 1 := by omega
        have hlr : Rb < wr.heap.size := Nat.lt_of_lt_of_le hlR hgs
        have hlw : w.heap.size + 1 < wr.heap.size := Nat.lt_of_lt_of_le hlb1 hgs
        have hal : acc.length + 1 ≤ 5000 := by have := hA.out; omega
        have Hal := Lib.hid hal
        clear hE2 hcs hdrop hV hV2 hnl2 hbv hsr hkd z1 z2 z3 z4 hokt htt hnn3 hk5 hal hi1 hvE
        have hk1 := Wk1.out
        have hk2 := Wk2.out
        gi_wp2_with fail
        have x0 : (wr.alloc (.cells #[.int .i64 tl, .int .i64 th] 23)).cell? ⟨wr.heap.size, 0, none⟩ = some (.int .i64 tl) := by simp [go_sem]
        have x1 : (wr.alloc (.cells #[.int .i64 tl, .int .i64 th] 23)).cell? ⟨wr.heap.size, 1, none⟩ = some (.int .i64 th) := by simp [go_sem]
        have hbq : Below wr.heap.size wr (wr.alloc (.cells #[.int .i64 tl, .int .i64 th] 23)) := (Below.refl _ _).alloc (Nat.le_refl _) _
        have hsq : wr.heap.size < (wr.alloc (.cells #[.int .i64 tl, .int .i64 th] 23)).heap.size := by simp
        generalize wr.alloc (.cells #[.int .i64 tl, .int .i64 th] 23) = wq at x0 x1 hbq hsq ⊢
        obtain ⟨xb, hxb⟩ : ∃ xb, xb = wr.heap.size := ⟨_, rfl⟩
        have nxb : xb ≠ Rb := by omega
        have hlq : Rb < wq.heap.size := Nat.lt_trans hlr hsq
        rw [← hxb] at x0 x1 ⊢
        clear hxb
        have hRq : Rst r wq Rb ((k + 1) * 1891) (restS r true (ts.drop (k + 1))) := hRst.below hbq hlr
        replace m0 := (hbq.cell (Nat.lt_trans nl0.out hlr)).trans m0
        replace m1 := (hbq.cell (Nat.lt_trans nl0.out hlr)).trans m1
        replace m2 := (hbq.cell (Nat.lt_trans nl0.out hlr)).trans m2
        replace m3 := (hbq.cell (Nat.lt_trans nl0.out hlr)).trans m3
        replace m4 := (hbq.cell (Nat.lt_trans nl0.out hlr)).trans m4
        replace m5 := (hbq.cell (Nat.lt_trans nl0.out hlr)).trans m5
        replace m6 := (hbq.cell (Nat.lt_trans nl0.out hlr)).trans m6
        replace m7 := (hbq.cell (Nat.lt_trans nl0.out hlr)).trans m7
        replace m8 := (hbq.cell (Nat.lt_trans nl0.out hlr)).trans m8
        replace m9 := (hbq.cell (Nat.lt_trans nl0.out hlr)).trans m9
        replace mf := (hbq.cell (p := ⟨_, 0, none⟩) (Nat.lt_trans nl1.out hlr)).trans mf
        have hm2 : w1.heap.size + 1 + 1 < wr.heap.size := by have := nl1.out; omega
        have hm4 := Nat.lt_of_lt_of_le nl4.out hgs
        replace mc := (hbq.cell (p := ⟨_, 0, none⟩) hm2).trans mc
        replace ms := (hbq.cell (p := ⟨_, 0, none⟩) hm4).trans ms
        replace s0 := (hbq.cell (p := ⟨_, 0, none⟩) hlw).trans s0
        replace s1 := (hbq.cell (p := ⟨_, 1, none⟩) hlw).trans s1
        replace t0 := (hbq.frozen (p := ⟨w.heap.size + 1, 0, none⟩) hlw).trans t0
        replace t1 := (hbq.frozen (p := ⟨w.heap.size + 1, 1, none⟩) hlw).trans t1
        have hAll : Aside (∀ W, wq.grownBy W (some Rb) → (wq.grownBy W (some Rb) ∧ W.cell? ⟨w1.heap.size + 1 + 1 + 1 + 1, 0, none⟩ = some (.slice (some ⟨Rb, 0, none⟩) (n + 1) (n + 1)) ∧ W.cell? ⟨w1.heap.size + 1 + 1, 0, none⟩ = some (.func (.func 71) #[] #[.pointer (some ⟨w1.heap.size, 0, none⟩), .pointer (some ⟨w1.heap.size + 1, 0, none⟩)]) ∧ W.cell? ⟨xb, 0, none⟩ = some (.int .i64 tl) ∧ W.cell? ⟨xb, 1, none⟩ = some (.int .i64 th) ∧ W.cell? ⟨w.heap.size + 1, 0, none⟩ = some (.int .i64 (x : Int)) ∧ W.cell? ⟨w.heap.size + 1, 1, none⟩ = some (.int .i64 (y : Int)))) := fun W h => ⟨h, gcell h ms nr4, gcell h mc nr2, gcell h x0 nxb, gcell h x1 nxb, gcell h s0 nrb, gcell h s1 nrb⟩
        refine region_liftF (S := fun W => wq.grownBy W (some Rb) ∧ W.cell? ⟨w1.heap.size + 1 + 1 + 1 + 1, 0, none⟩ = some (.slice (some ⟨Rb, 0, none⟩) (n + 1) (n + 1)) ∧ W.cell? ⟨w1.heap.size + 1 + 1, 0, none⟩ = some (.func (.func 71) #[] #[.pointer (some ⟨w1.heap.size, 0, none⟩), .pointer (some ⟨w1.heap.size + 1, 0, none⟩)]) ∧ W.cell? ⟨xb, 0, none⟩ = some (.int .i64 tl) ∧ W.cell? ⟨xb, 1, none⟩ = some (.int .i64 th) ∧ W.cell? ⟨w.heap.size + 1, 0, none⟩ = some (.int .i64 (x : Int)) ∧ W.cell? ⟨w.heap.size + 1, 1, none⟩ = some (.int .i64 (y : Int))) hF (by kernel_rfl) (hAll.out _ (grown_drew _ _)) (fun hS0 => ?_)
        (try go_simp)
        refine wpAnyH_take (i := 0) (v := ?_) rfl (by kernel_rfl) (by kernel_rfl) (by kernel_rfl) (fun _ _ _ h => h) (Or.inl ⟨by rfl, ?_⟩) hS0 ?_
        rotate_left
        · (intro W hSw; (try dsimp only at hSw); go_split_ands; go_simp; (try with_reducible rfl))
        (try go_simp)
        (try go_simp)
        refine wpAnyH_take (i := 1) (v := ?_) rfl (by kernel_rfl) (by kernel_rfl) (by kernel_rfl) (fun _ _ _ h => h) (Or.inl ⟨by rfl, ?_⟩) hS0 ?_
        rotate_left
        · (intro W hSw; (try dsimp only at hSw); go_split_ands; go_simp; (try with_reducible rfl))
        (try go_simp)
        (try go_simp)
        refine wpAnyH_take (i := 2) (v := ?_) rfl (by kernel_rfl) (by kernel_rfl) (by kernel_rfl) (fun _ _ _ h => h) (Or.inl ⟨by rfl, ?_⟩) hS0 ?_
        rotate_left
        · (intro W hSw; (try dsimp only at hSw); go_split_ands; go_simp; (try with_reducible rfl))
        (try go_simp)
        (try go_simp)
        refine wpAnyH_take (i := 3) (v := ?_) rfl (by kernel_rfl) (by kernel_rfl) (by kernel_rfl) (fun _ _ _ h => h) (Or.inl ⟨by rfl, ?_⟩) hS0 ?_
        rotate_left
        · (intro W hSw; (try dsimp only at hSw); go_split_ands; go_simp; (try with_reducible rfl))
        (try go_simp)
        (try go_simp)
        refine wpAnyH_take (i := 4) (v := ?_) rfl (by kernel_rfl) (by kernel_rfl) (by kernel_rfl) (fun _ _ _ h => h) (Or.inl ⟨by rfl, ?_⟩) hS0 ?_
        rotate_left
        · (intro W hSw; (try dsimp only at hSw); go_split_ands; go_simp; (try with_reducible rfl))
        (try go_simp)
        (try go_simp)
        refine wpAnyH_take (i := 5) (v := ?_) rfl (by kernel_rfl) (by kernel_rfl) (by kernel_rfl) (fun _ _ _ h => h) (Or.inl ⟨by rfl, ?_⟩) hS0 ?_
        rotate_left
        · (intro W hSw; (try dsimp only at hSw); go_split_ands; go_simp; (try with_reducible rfl))
        (try go_simp)
        (try go_simp)
        refine wpAnyH_take (i := 6) (v := ?_) rfl (by kernel_rfl) (by kernel_rfl) (by kernel_rfl) (fun _ _ _ h => h) (Or.inl ⟨by rfl, ?_⟩) hS0 ?_
        rotate_left
        · (intro W hSw; (try dsimp only at hSw); go_split_ands; go_simp; (try with_reducible rfl))
        (try go_simp)
        refine wpAnyH_ready (rs := [7]) (by kernel_rfl) (by simp) ?_
        refine (AllReadyH.cons rfl (fun K hK => ?_) AllReadyH.nil)
        go_simp
        have hlqd : Rb < wq.drew.heap.size := hlq
        go_wp2_with (go_at_call 71; refine (hch _ hlqd (Nat.lt_trans nl0.out hlqd) (Nat.lt_trans nl1.out hlqd) hRq m0 m1 m2 m3 m4 m5 m6 m7 m8 m9 mf).mono ?_; rintro e w5 ⟨rfl, hb5⟩; have g5 : wq.grownBy w5 (some Rb) := grown_below (grown_drew wq _) hb5)
        refine hK.out _ _ (hAll.out _ g5) (fun hS1 => ?_)
        clear hK K
        (try go_simp)
        (try go_simp)
        refine wpAnyH_take (i := 8) (v := ?_) rfl (by kernel_rfl) (by kernel_rfl) (by kernel_rfl) (fun _ _ _ h => h) (Or.inl ⟨by rfl, ?_⟩) hS1 ?_
        rotate_left
        · (intro W hSw; (try dsimp only at hSw); go_split_ands; go_simp; (try with_reducible rfl))
        (try go_simp)
        (try go_simp)
        refine wpAnyH_take (i := 9) (v := ?_) rfl (by kernel_rfl) (by kernel_rfl) (by kernel_rfl) (fun _ _ _ h => h) (Or.inl ⟨by rfl, ?_⟩) hS1 ?_
        rotate_left
        · (intro W hSw; (try dsimp only at hSw); go_split_ands; go_simp; (try with_reducible rfl))
        (try go_simp)
        (try go_simp)
        refine wpAnyH_take (i := 10) (v := ?_) rfl (by kernel_rfl) (by kernel_rfl) (by kernel_rfl) (fun _ _ _ h => h) (Or.inl ⟨by rfl, ?_⟩) hS1 ?_
        rotate_left
        · (intro W hSw; (try dsimp only at hSw); go_split_ands; go_simp; (try with_reducible rfl))
        (try go_simp)
        (try go_simp)
        refine wpAnyH_take (i := 11) (v := ?_) rfl (by kernel_rfl) (by kernel_rfl) (by kernel_rfl) (fun _ _ _ h => h) (Or.inl ⟨by rfl, ?_⟩) hS1 ?_
        rotate_left
        · (intro W hSw; (try dsimp only at hSw); go_split_ands; go_simp; (try with_reducible rfl))
        (try go_simp)
        (try go_simp)
        refine wpAnyH_take (i := 12) (v := ?_) rfl (by kernel_rfl) (by kernel_rfl) (by kernel_rfl) (fun _ _ _ h => h) (Or.inl ⟨by rfl, ?_⟩) hS1 ?_
        rotate_left
        · (intro W hSw; (try dsimp only at hSw); go_split_ands; go_simp; (try with_reducible rfl))
        (try go_simp)
        refine wpAnyH_done (by kernel_rfl) (onlyN_in ?_) _
        replace hb5 : Below wq.heap.size wq w5 := ⟨hb5.os, hb5.tape, hb5.output, hb5.size, hb5.block⟩
        clear hk1 hk2 x0 x1 hRq hch hAll hS1 hS0 mc ms
        replace m0 := gcell g5 m0 nr0
        replace m1 := gcell g5 m1 nr0
        replace m2 := gcell g5 m2 nr0
        replace m3 := gcell g5 m3 nr0
        replace m4 := gcell g5 m4 nr0
        replace m5 := gcell g5 m5 nr0
        replace m6 := gcell g5 m6 nr0
        replace m7 := gcell g5 m7 nr0
        replace m8 := gcell g5 m8 nr0
        replace m9 := gcell g5 m9 nr0
        replace s0 := gcell g5 s0 nrb
        replace s1 := gcell g5 s1 nrb
        replace t0 := (g5.frozen_far ⟨w.heap.size + 1, 0, none⟩ (Nat.lt_trans hlw hsq) (fun e => nrb (by cases e; rfl))).trans t0
        replace t1 := (g5.frozen_far ⟨w.heap.size + 1, 1, none⟩ (Nat.lt_trans hlw hsq) (fun e => nrb (by cases e; rfl))).trans t1
        have hzq5 := g5.size
        have hlw5 : w.heap.size + 1 < w5.heap.size := Nat.lt_of_lt_of_le (Nat.lt_trans hlw hsq) hzq5
        gi_wp2_with fail
        refine (wideC hF (hstep _)).mono ?_
        rintro e w7 ⟨rfl, hb7⟩
        have hz7 := hb7.size
        replace s0 := (hb7.cell (p := ⟨_, 0, none⟩) hlw5).trans s0
        replace s1 := (hb7.cell (p := ⟨_, 1, none⟩) hlw5).trans s1
        replace t0 := (hb7.frozen (p := ⟨w.heap.size + 1, 0, none⟩) hlw5).trans t0
        replace t1 := (hb7.frozen (p := ⟨w.heap.size + 1, 1, none⟩) hlw5).trans t1
        have hb57 : Below wr.heap.size wr w7 := hbq.trans ((hb5.mono (Nat.le_of_lt hsq)).trans (hb7.mono (Nat.le_trans (Nat.le_of_lt hsq) hzq5)))
        have hg7 : W.grownBy w7 (some (w.heap.size + 1)) := grown_below hG.out (hb57.mono hgs)
        have hg8 : W.grownBy ((w7.setCell ⟨w.heap.size + 1, 0, none⟩ (.int .i64 (x2 : Int))).setCell ⟨w.heap.size + 1, 1, none⟩ (.int .i64 (y2 : Int))) (some (w.heap.size + 1)) := grown_tr (grown_tr hg7 (grown_set _ _ _ _) (fun r e => Or.inr (by cases e; rfl))) (grown_set _ _ _ _) (fun r e => Or.inr (by cases e; rfl))
        have hO8 : Own1 (Value.int .i64) 43 ((w7.setCell ⟨w.heap.size + 1, 0, none⟩ (.int .i64 (x2 : Int))).setCell ⟨w.heap.size + 1, 1, none⟩ (.int .i64 (y2 : Int))) W.heap.size (.slice Av acc.length cv) acc := ((hO.out.below hb57 (Nat.le_refl _)).grown (grown_set _ _ _ _) hlb1).grown (grown_set _ _ _ _) hlb1
        have a0 : ((w7.setCell ⟨w.heap.size + 1, 0, none⟩ (.int .i64 (x2 : Int))).setCell ⟨w.heap.size + 1, 1, none⟩ (.int .i64 (y2 : Int))).cell? ⟨w.heap.size + 1, 0, none⟩ = some (.int .i64 (x2 : Int)) := by simp [go_sem, s0]
        have a1 : ((w7.setCell ⟨w.heap.size + 1, 0, none⟩ (.int .i64 (x2 : Int))).setCell ⟨w.heap.size + 1, 1, none⟩ (.int .i64 (y2 : Int))).cell? ⟨w.heap.size + 1, 1, none⟩ = some (.int .i64 (y2 : Int)) := by simp [go_sem, s1]
        have b0 : ((w7.setCell ⟨w.heap.size + 1, 0, none⟩ (.int .i64 (x2 : Int))).setCell ⟨w.heap.size + 1, 1, none⟩ (.int .i64 (y2 : Int))).frozen? ⟨w.heap.size + 1, 0, none⟩ = false := by simp [go_sem, t0]
        have b1 : ((w7.setCell ⟨w.heap.size + 1, 0, none⟩ (.int .i64 (x2 : Int))).setCell ⟨w.heap.size + 1, 1, none⟩ (.int .i64 (y2 : Int))).frozen? ⟨w.heap.size + 1, 1, none⟩ = false := by simp [go_sem, t1]
        have hO9 := hO8.alloc (.cells #[.int .i64 kd] 43)
        unfold Own1 at hO9
        have hne := hO8.lt
        have hz8 : ((w7.setCell ⟨w.heap.size + 1, 0, none⟩ (.int .i64 (x2 : Int))).setCell ⟨w.heap.size + 1, 1, none⟩ (.int .i64 (y2 : Int))).heap.size = w7.heap.size := by simp
        have HN := Lib.hid (show (((w7.setCell ⟨w.heap.size + 1, 0, none⟩ (.int .i64 (x2 : Int))).setCell ⟨w.heap.size + 1, 1, none⟩ (.int .i64 (y2 : Int))).alloc (.cells #[.int .i64 kd] 43)).cell? ⟨w7.heap.size, 0, none⟩ = some (.int .i64 kd) by rw [← hz8]; simp [go_sem])
        have HG8 := Lib.hid hg8
        have hbase : W.heap.size ≤ (((w7.setCell ⟨w.heap.size + 1, 0, none⟩ (.int .i64 (x2 : Int))).setCell ⟨w.heap.size + 1, 1, none⟩ (.int .i64 (y2 : Int))).alloc (.cells #[.int .i64 kd] 43)).heap.size := by have := hg8.size; rw [World.size_alloc]; exact Nat.le_succ_of_le this
        have HB := Lib.hid hbase
        clear hg8 hz8 hbase hg7
        gi_wp2_with (gi_at_builtin; (refine wpListIn_append_own _ rfl _ _ 37 rfl W.heap.size 43 ik _ 1 8 Try.underlying37 hik hzk hsk hbk rfl (by decide) _ _ _ rfl hO9 ⟨w7.heap.size, 0, none⟩ 1 1 [.int .i64 kd] rfl rfl (news_one HN.out) (by simp [Value.oneCell']) (by have := Hal.out; unfold maxLen; omega) (by have := Hal.out; omega) HB.out ?_; intro v' w9 hown' hgrow _; obtain ⟨g', cap', rfl⟩ := ownsRow_succ hown'))
        have hg9 : W.grownBy w9 (some (w.heap.size + 1)) := grown_tr (grown_tr HG8.out (grown_alloc _ _) (fun r e => by cases e)) hgrow (fun r e => Or.inl (hne r e).1)
        have hs8 := HG8.out.size
        have hb1lt := Nat.lt_of_lt_of_le hlb1 hs8
        have hnown : ∀ (e : some (w.heap.size + 1) = Value.ownBlock (.slice Av acc.length cv)), False := fun e => absurd (hne _ e.symm).1 (Nat.not_le_of_lt hlb1)
        have hfar := fun o => (hgrow.cell_far ⟨w.heap.size + 1, o, none⟩ (by rw [World.size_alloc]; exact Nat.lt_succ_of_lt hb1lt) hnown).trans (World.cell?_alloc_lt _ _ _ hb1lt)
        have hffar := fun o => (hgrow.frozen_far ⟨w.heap.size + 1, o, none⟩ (by rw [World.size_alloc]; exact Nat.lt_succ_of_lt hb1lt) hnown).trans (((Below.refl _ _).alloc (Nat.le_refl _) _).frozen (p := ⟨w.heap.size + 1, o, none⟩) hb1lt)
        have hk1 := Wk1.out
        go_roundw
        case rel => exact ⟨k + 1, x2, y2, acc ++ [kd], hlt, (by first | rfl | go_num | (simp [hk1]; done)), (show Aside _ from by show _ = _; rw [HE2.out]; simp), (show Aside _ from by show _ = _; rw [List.length_append, hA.out]; rfl), hst3.out, Own1.snoc hown' rfl, hg9, (hfar 0).trans a0, (hfar 1).trans a1, (hffar 0).trans b0, (hffar 1).trans b1⟩
        case measure => (clear hk1; simp [intOf]; omega)
      · obtain rfl : k = n := Nat.le_antisymm hk (Nat.le_of_not_lt hlt)
        have hE2 := hE.out
        rw [List.drop_eq_nil_of_le (Nat.le_of_eq hn.out)] at hE2
        have hltz : ¬ (k : Int) < (k : Int) := Int.lt_irrefl _
        gi_wp2
        have hK' : wr.heap[D]? = some (.deferred (some [])) := (hG.out.block D hDlt (fun e => nD (by cases e; rfl))).trans HKD.out
        refine ⟨by simp, .inl ⟨_, _, rfl, run_takeDeferred hK', ?_⟩⟩
        have ht := Turn.putObj (B := D) (.deferred none) (Nat.le_refl D) hK' rfl
        simp only [extS, List.append_nil] at hE2
        have hO9 := Own1.grown hO.out (grownBy_putObj' wr D (.deferred none)) hDlt
        refine ⟨.tuple #[.slice Av acc.length cv, .int .i64 0], by simp [results, Try.results31, go_sem], ?_⟩
        (try rw [hE2])
        (try simp only [extS, List.append_nil])
        exact ⟨Av, cv, rfl, hvl, hvm, hvn, (Own1.reads_slice hO9).mono hwW.out, (hBW.out.trans (grown_bel hG.out (Nat.le_succ _) hwW.out)).trans (ht.below.mono HD.out)⟩

theorem extreme_any (r : TR) (c i : Int) (most : Bool) (lo : Nat) (A : Option Addr) (n cc : Nat) (ts : List R) (w : World) (hx : Ranges w lo A ts) (hn : Aside (ts.length = n)) (hl : n ≤ maxLen) :
    Calls Try.prog 31 #[rV r, .agg #[.int .i64 c, .int .i64 i], .slice A n cc, .bool most] w (ExtPost w (errT r c i ts) (if errT r c i ts = 0 then extS r most ts (c, i) else [])) := by
  by_cases h0 : errT r c i ts = 0
  · rw [h0, if_pos rfl]
    cases most with
    | false => exact extreme_false r c i lo A n cc ts w hx hn hl h0
    | true => exact extreme_true r c i lo A n cc ts w hx hn hl h0
  · rw [if_neg h0]
    exact extreme_err r c i most lo A n cc ts w hx hn hl h0


end Go.Proofs.Ytlkecgjpmnganaa
