/- Contracts: span.CheckSet, checked, full, common, Without. -/
import Derived.Test.YtfohdafijfjefaaOwn
import Derived.Deep.DeepCutAuto
set_option linter.unusedSimpArgs false
set_option linter.unusedVariables false
namespace Go.Proofs.Ytfohdafijfjefaa
open Go.RowKit Go.Shelf
attribute [local go_sem ↓] Go.wp_at_zero Go.wp_at_succ

/-- the first k ranges lie apart, in order -/
def apart (xs : List R) (k : Nat) : Prop := ∀ i, i < k → 0 < i → (xs[i - 1]?.getD R.d).hi + 1 < (xs[i]?.getD R.d).lo
instance (xs : List R) (k : Nat) : Decidable (apart xs k) := by unfold apart; infer_instance
def setS (xs : List R) : Int := if 200 < xs.length then 5 else if xs.all okR = false then 2 else if apart xs xs.length then 0 else 2

theorem all_at {xs : List R} (h : xs.all okR = true) {k : Nat} (hk : k < xs.length) : okR (xs[k]?.getD R.d) = true := by
  rw [List.all_eq_true] at h
  rw [List.getElem?_eq_getElem hk]
  exact h _ (List.getElem_mem hk)

set_option maxHeartbeats 1000000 in
theorem CheckSet_any (lo : Nat) (A : Option Addr) (n c : Nat) (xs : List R) (w : World) (hx : Ranges w lo A xs) (hn : Aside (xs.length = n)) (hl : n ≤ maxLen) :
    Calls Try.prog 63 #[.slice A n c] w fun e w' => e = .returned (.int .i64 (setS xs)) ∧ Below w.heap.size w w' := by
  have hR := isRange_any lo A n c xs w hx hn hl
  unfold maxLen at hl
  by_cases h100 : 200 < n
  · have hz : (200 : Int) < (n : Int) := by omega
    have e : setS xs = 5 := by unfold setS; rw [if_pos (by rw [hn.out]; exact h100)]
    rw [e]
    clear hR hx
    go_enter Try.func63, Try.ntmps63
    go_wp2
    go_ret
    exact ⟨rfl, Below.refl _ _⟩
  · have hz : ¬ (200 : Int) < (n : Int) := by omega
    cases h0 : xs.all okR with
    | false =>
      have e : setS xs = 2 := by unfold setS; rw [if_neg (by rw [hn.out]; exact h100), if_pos h0]
      rw [e]
      rw [h0] at hR
      clear hx h0
      go_enter Try.func63, Try.ntmps63
      go_wp2_with fail
      refine (hR).mono ?_
      rintro e w1 ⟨rfl, hb1⟩
      have hz1 := hb1.size
      try simp only [World.size_alloc, World.size_setCell, World.size_drew] at hz1
      go_wp2
      go_ret
      exact ⟨rfl, (by (try show Below _ _ _); repeat (first | (with_reducible refine Below.setCell ?_ (by first | omega | (simp <;> omega)) _) | (with_reducible refine Below.alloc ?_ (by first | omega | (simp <;> omega)) _) | (with_reducible refine Below.drew ?_) | (with_reducible exact Below.refl _ _) | (with_reducible refine below_call ?_ (by assumption) (by first | omega | (simp <;> omega))) | (with_reducible refine below_call ?_ (Drew.below (by assumption) _) (by first | omega | (simp <;> omega)))))⟩
    | true =>
      have e : setS xs = if apart xs n then 0 else 2 := by unfold setS; rw [if_neg (by rw [hn.out]; exact h100), if_neg (by rw [h0]; decide), hn.out]
      rw [e]
      rw [h0] at hR
      have hall : ∀ k, k < n → okR (xs[k]?.getD R.d) = true := fun k hk => all_at h0 (by rw [hn.out]; exact hk)
      have Hall := Lib.hid hall
      clear e hall h0
      generalize hres : (if apart xs n then (0 : Int) else 2) = res
      have Hres := Lib.hid hres
      clear hres
      go_enter Try.func63, Try.ntmps63
      go_wp2_with fail
      refine (hR).mono ?_
      rintro e w1 ⟨rfl, hb1⟩
      have hz1 := hb1.size
      try simp only [World.size_alloc, World.size_setCell, World.size_drew] at hz1
      have HX := Lib.hid (hx.below hb1 (Nat.le_refl _))
      clear hx hR
      go_wp2
      go_loopg [3] (n) (fun gg i wr => ∃ k : Nat, 1 ≤ k ∧ (k ≤ n ∨ k = 1) ∧ n - k ≤ gg ∧ i = .int .i64 k ∧ Aside (apart xs k) ∧ Aside (Drew w1 wr))
      case atStart => exact ⟨1, Nat.le_refl _, .inr rfl, by omega, rfl, (fun i hi h0 => absurd hi (by omega)), Drew.refl _⟩
      case round =>
        obtain ⟨k, hk1, hk, hg, rfl, hap, hd⟩ := hrel
        have hbe : Below w.heap.size w wr := hb1.trans (hd.out.below _)
        by_cases hlt : k < n
        · obtain ⟨b, o, rfl, _, hlb, hc⟩ := HX.out (by have := hn.out; omega)
          obtain ⟨j, rfl⟩ : ∃ j, k = j + 1 := ⟨k - 1, by omega⟩
          have hdb := hd.out.below (w1.heap.size)
          have hck1 := (hdb.cell (p := ⟨b, o + j * 2 + 1, none⟩) hlb).trans (hc j 1 (by have := hn.out; omega) (by omega))
          have hck0 := (hdb.cell (p := ⟨b, o + (j + 1) * 2 + 0, none⟩) hlb).trans (hc (j + 1) 0 (by have := hn.out; omega) (by omega))
          have ok1 := (okR_iff _).1 (Hall.out j (by omega))
          have ok2 := (okR_iff _).1 (Hall.out (j + 1) (by omega))
          have hstep : (xs[j]?.getD R.d).hi + 1 < (xs[j + 1]?.getD R.d).lo → apart xs (j + 1 + 1) := by
            intro h i hi h0
            by_cases e : i = j + 1
            · subst e; exact h
            · exact hap.out i (by omega) h0
          have hstop : ¬ (xs[j]?.getD R.d).hi + 1 < (xs[j + 1]?.getD R.d).lo → ¬ apart xs n := by
            intro h ha
            exact h (ha (j + 1) hlt (by omega))
          clear hc hdb
          generalize xs[j]?.getD R.d = x at *
          generalize xs[j + 1]?.getD R.d = y at *
          obtain ⟨x0, x1⟩ := x
          obtain ⟨y0, y1⟩ := y
          simp only [R.cell, Nat.add_zero, if_true, Nat.one_ne_zero, if_false] at hck0 hck1 ok1 ok2 hstep hstop
          have Hstep := Lib.hid hstep
          have Hstop := Lib.hid hstop
          clear hstep hstop
          have hltz : ((j : Int) + 1) < (n : Int) := by omega
          have hj0 : (0 : Int) ≤ (j : Int) := by omega
          have hj1 : (j : Int) < (n : Int) := by omega
          have hltn : j + 1 < n := hlt
          have hjn : j < n := by omega
          go_wp2_with fail
          go_quiet (fail)
          by_cases hgap : x1 + 1 < y0
          · have hg2 : ¬ y0 ≤ x1 + 1 := by omega
            go_wp2
            go_roundg (n - (j + 1 + 1))
            case measure => omega
            case rel => exact ⟨j + 1 + 1, by omega, .inl (by omega), by omega, by go_num, Hstep.out hgap, (by obtain ⟨m, hm⟩ := hd.out; exact ⟨m + _, by rw [hm]; exact (World.drewN_drewN _ _ _)⟩)⟩
          · have hg2 : y0 ≤ x1 + 1 := by omega
            go_wp2
            go_ret
            have hr := Hres.out
            rw [if_neg (Hstop.out hgap)] at hr
            exact ⟨by rw [← hr]; rfl, hbe.trans (Drew.below ⟨_, rfl⟩ _)⟩
        · have hltz : ¬ (k : Int) < (n : Int) := by omega
          go_wp2
          go_ret
          have hr := Hres.out
          rw [if_pos (show apart xs n from fun i hi h0 => hap.out i (by omega) h0)] at hr
          exact ⟨by rw [← hr]; rfl, hbe⟩

/-- of two sets -/
def checked2 (a b : List R) : Int := if setS a = 0 then setS b else setS a

set_option maxHeartbeats 1000000 in
theorem checked_two (bl : Nat) (lo : Nat) (A1 : Option Addr) (n1 c1 : Nat) (xs : List R) (A2 : Option Addr) (n2 c2 : Nat) (ys : List R) (w : World) (hx : Ranges w lo A1 xs) (hn1 : Aside (xs.length = n1)) (hl1 : n1 ≤ maxLen) (hy : Ranges w lo A2 ys) (hn2 : Aside (ys.length = n2)) (hl2 : n2 ≤ maxLen)
    (h0 : w.cell? ⟨bl, 0, none⟩ = some (.slice A1 n1 c1)) (h1 : w.cell? ⟨bl, 1, none⟩ = some (.slice A2 n2 c2)) (hbl : bl < w.heap.size) :
    Calls Try.prog 127 #[.slice (some ⟨bl, 0, none⟩) 2 2] w fun e w' => e = .returned (.int .i64 (checked2 xs ys)) ∧ Below w.heap.size w w' := by
  have hC1 := fun (W : World) (h : Below w.heap.size w W) => CheckSet_any lo A1 n1 c1 xs W (hx.below h (Nat.le_refl _)) hn1 hl1
  have hC2 := fun (W : World) (h : Below w.heap.size w W) => CheckSet_any lo A2 n2 c2 ys W (hy.below h (Nat.le_refl _)) hn2 hl2
  unfold checked2
  generalize setS xs = r1 at *
  generalize setS ys = r2 at *
  clear hx hy hn1 hn2 hl1 hl2
  have HH0 := Lib.hid h0
  have HH1 := Lib.hid h1
  clear h0 h1
  generalize hres : (if r1 = 0 then r2 else r1) = res
  have Hres := Lib.hid hres
  clear hres
  go_enter Try.func127, Try.ntmps127
  go_wp2
  go_loopg [8] (2) (fun gg i wr => ∃ k : Nat, k ≤ 2 ∧ 2 - k ≤ gg ∧ i = .int .i64 k ∧ Aside ((0 < k → r1 = 0) ∧ (1 < k → r2 = 0)) ∧ Aside (Below w.heap.size w wr))
  case atStart => exact ⟨0, by omega, Nat.le_refl _, rfl, ⟨fun h => absurd h (by omega), fun h => absurd h (by omega)⟩, Below.refl _ _⟩
  case round =>
    obtain ⟨k, hk, hg, rfl, hz, hb⟩ := hrel
    have hcases : k = 0 ∨ k = 1 ∨ k = 2 := by omega
    have hbs := hb.out.size
    rcases hcases with rfl | rfl | rfl
    · have g0 := (hb.out.cell (p := ⟨bl, 0, none⟩) hbl).trans HH0.out
      have hcall := hC1 wr hb.out
      by_cases e : r1 = 0
      · have eb : (r1 != 0) = false := by rw [e]; rfl
        have E := Lib.hid e
        clear e
        go_wp2_with fail
        refine (hcall).mono ?_
        rintro e w1 ⟨rfl, hb1⟩
        have hz1 := hb1.size
        try simp only [World.size_alloc, World.size_setCell, World.size_drew] at hz1
        go_wp2
        go_roundg (2 - (0 + 1))
        case measure => omega
        case rel => exact ⟨0 + 1, by omega, by omega, rfl, ⟨fun _ => E.out, fun h => absurd h (by omega)⟩, below_call hb.out hb1 (by omega)⟩
      · have eb : (r1 != 0) = true := by rw [bne_iff_ne]; exact e
        have E := Lib.hid e
        clear e
        go_wp2_with fail
        refine (hcall).mono ?_
        rintro e w1 ⟨rfl, hb1⟩
        have hz1 := hb1.size
        try simp only [World.size_alloc, World.size_setCell, World.size_drew] at hz1
        go_wp2
        go_ret
        have hr := Hres.out
        rw [if_neg E.out] at hr
        exact ⟨by rw [← hr]; rfl, below_call hb.out hb1 (by omega)⟩
    · have g0 := (hb.out.cell (p := ⟨bl, 1, none⟩) hbl).trans HH1.out
      have hcall := hC2 wr hb.out
      have hq1 := Lib.hid (hz.out.1 (by omega))
      by_cases e : r2 = 0
      · have eb : (r2 != 0) = false := by rw [e]; rfl
        have E := Lib.hid e
        clear e
        go_wp2_with fail
        refine (hcall).mono ?_
        rintro e w1 ⟨rfl, hb1⟩
        have hz1 := hb1.size
        try simp only [World.size_alloc, World.size_setCell, World.size_drew] at hz1
        go_wp2
        go_roundg (2 - (1 + 1))
        case measure => omega
        case rel => exact ⟨1 + 1, by omega, by omega, rfl, ⟨fun _ => hq1.out, fun _ => E.out⟩, below_call hb.out hb1 (by omega)⟩
      · have eb : (r2 != 0) = true := by rw [bne_iff_ne]; exact e
        have E := Lib.hid e
        clear e
        go_wp2_with fail
        refine (hcall).mono ?_
        rintro e w1 ⟨rfl, hb1⟩
        have hz1 := hb1.size
        try simp only [World.size_alloc, World.size_setCell, World.size_drew] at hz1
        go_wp2
        go_ret
        have hr := Hres.out
        rw [if_pos hq1.out] at hr
        exact ⟨by rw [← hr]; rfl, below_call hb.out hb1 (by omega)⟩
    · have hz1 := hz.out.1 (by omega)
      have hz2 := hz.out.2 (by omega)
      have hr := Hres.out
      rw [if_pos hz1, hz2] at hr
      have Hr := Lib.hid hr
      clear hz1 hz2 hr
      go_wp2
      go_ret
      exact ⟨by rw [← Hr.out]; rfl, hb.out⟩

set_option maxHeartbeats 400000 in
theorem full_any (A : Option Addr) (n c : Nat) (hl : n ≤ maxLen) (w : World) :
    Calls Try.prog 131 #[.slice A n c] w fun e w' => e = .returned (if 200 < n then .tuple #[.slice none 0 0, .int .i64 8] else .tuple #[.slice A n c, .int .i64 0]) ∧ w = w' := by
  unfold maxLen at hl
  by_cases h : 200 < n
  · have hz : (200 : Int) < (n : Int) := by omega
    rw [if_pos h]
    go_enter Try.func131, Try.ntmps131
    go_wp2
    go_ret2
    exact ⟨rfl, rfl⟩
  · have hz : ¬ (200 : Int) < (n : Int) := by omega
    rw [if_neg h]
    go_enter Try.func131, Try.ntmps131
    go_wp2
    go_ret2
    exact ⟨rfl, rfl⟩

/-- what two lists of ranges have in common, from some of it on -/
def commonS : List R → List R → List R → List R
  | x :: a, y :: b, acc =>
    let acc' := if max x.lo y.lo ≤ min x.hi y.hi then addR acc ⟨max x.lo y.lo, min x.hi y.hi⟩ else acc
    if x.hi < y.hi then commonS a (y :: b) acc' else commonS (x :: a) b acc'
  | _, _, acc => acc
termination_by a b => a.length + b.length

def bdR (x : R) : Prop := (-1000000000000001 ≤ x.lo ∧ x.lo ≤ 1000000000000001) ∧ (-1000000000000001 ≤ x.hi ∧ x.hi ≤ 1000000000000001)
def bdH (xs : List R) : Prop := ∀ x ∈ xs, -4000000000000000000 ≤ x.hi ∧ x.hi ≤ 4000000000000000000

theorem addR_bd (xs : List R) (r : R) (h : bdH xs) (hr : -4000000000000000000 ≤ r.hi ∧ r.hi ≤ 4000000000000000000) : bdH (addR xs r) := by
  rcases List.eq_nil_or_concat xs with rfl | ⟨ys, l, rfl⟩
  · rw [addR_nil]; intro x hx; simp at hx; subst hx; exact hr
  · rw [List.concat_eq_append] at *
    rw [addR_snoc]
    have hl := h l (by simp)
    split
    · intro x hx
      rw [List.mem_append] at hx
      rcases hx with hx | hx
      · exact h x (by simp [hx])
      · simp at hx; subst hx; simp only; omega
    · intro x hx
      rw [List.mem_append] at hx
      rcases hx with hx | hx
      · exact h x hx
      · simp at hx; subst hx; exact hr

theorem addR_len (xs : List R) (r : R) : (addR xs r).length ≤ xs.length + 1 := by
  rcases List.eq_nil_or_concat xs with rfl | ⟨ys, l, rfl⟩
  · rw [addR_nil]; simp
  · rw [List.concat_eq_append, addR_snoc]
    split <;> simp

theorem addR_ne (xs : List R) (r : R) : addR xs r ≠ [] := by
  rcases List.eq_nil_or_concat xs with rfl | ⟨ys, l, rfl⟩
  · rw [addR_nil]; simp
  · rw [List.concat_eq_append, addR_snoc]
    split <;> simp

theorem drop_cons_at (xs : List R) (k : Nat) (hk : k < xs.length) : xs.drop k = (xs[k]?.getD R.d) :: xs.drop (k + 1) := by
  rw [List.drop_eq_getElem_cons hk, List.getElem?_eq_getElem hk]; rfl

/-- a result that is a list of one's own -/
def OwnPost (w : World) (xs : List R) (e : Ending) (w' : World) : Prop := ∃ v, e = .returned v ∧ OwnR w' w.heap.size v xs ∧ (xs = [] → v = .slice none 0 0) ∧ Below w.heap.size w w'

structure CmI (w : World) (acc : List R) (m : Nat) (wr : World) : Prop where
  below : Below w.heap.size w wr
  size : w.heap.size < wr.heap.size
  bf : wr.frozen? ⟨w.heap.size, 0, none⟩ = false
  box : ∃ v, wr.cell? ⟨w.heap.size, 0, none⟩ = some v ∧ OwnR wr (w.heap.size + 1) v acc ∧ (acc = [] → v = .slice none 0 0)
  bd : bdH acc
  len : acc.length ≤ m

theorem CmI.later {w : World} {acc : List R} {m : Nat} {wr W : World} (h : CmI w acc m wr) (hb : Below wr.heap.size wr W) : CmI w acc m W := by
  obtain ⟨h1, h2, h3, ⟨v, h4, h5, h6⟩, h7, h8⟩ := h
  exact ⟨below_call h1 hb (by omega), Nat.lt_of_lt_of_le h2 hb.size, (hb.frozen (by exact h2)).trans h3, ⟨v, (hb.cell (by exact h2)).trans h4, h5.below hb (Nat.le_refl _), h6⟩, h7, h8⟩

theorem CmI.added {w : World} {acc : List R} {m : Nat} {wr W : World} {r : R} (h : CmI w acc m wr) (ha : AddPost (w.heap.size + 1) w.heap.size (addR acc r) wr W) (hr : -4000000000000000000 ≤ r.hi ∧ r.hi ≤ 4000000000000000000) : CmI w (addR acc r) (m + 1) W := by
  obtain ⟨v, h4, h5⟩ := ha.box
  exact ⟨ha.below h.below (Nat.le_refl _) (by omega), Nat.lt_of_lt_of_le h.size ha.size, ha.bf, ⟨v, h4, h5, fun e => absurd e (addR_ne _ _)⟩, addR_bd _ _ h.bd hr, Nat.le_trans (addR_len _ _) (by have := h.len; omega)⟩

theorem CmI.step {w : World} {acc : List R} {m m' : Nat} {wr : World} (h : CmI w acc m wr) (hm : m ≤ m') : CmI w acc m' wr := ⟨h.below, h.size, h.bf, h.box, h.bd, Nat.le_trans h.len hm⟩

set_option maxRecDepth 100000 in
set_option maxHeartbeats 2000000 in
theorem common_any (lo : Nat) (A1 : Option Addr) (n1 c1 : Nat) (xs : List R) (A2 : Option Addr) (n2 c2 : Nat) (ys : List R) (w : World) (hx : Ranges w lo A1 xs) (hn1 : Aside (xs.length = n1)) (hy : Ranges w lo A2 ys) (hn2 : Aside (ys.length = n2)) (hlen : n1 + n2 ≤ 900)
    (hb1 : Aside (∀ x ∈ xs, bdR x)) (hb2 : Aside (∀ x ∈ ys, bdR x)) :
    Calls Try.prog 132 #[.slice A1 n1 c1, .slice A2 n2 c2] w (OwnPost w (commonS xs ys [])) := by
  have Hx := Lib.hid hx
  have Hy := Lib.hid hy
  clear hx hy
  generalize hres : commonS xs ys [] = res
  have Hres := Lib.hid hres
  clear hres
  go_enter Try.func132, Try.ntmps132
  go_wp2
  go_loopg [5, 6] (n1 + n2) (fun gg s5 s6 wr => ∃ (i k : Nat) (acc : List R), s5 = .int .i64 i ∧ s6 = .int .i64 k ∧ i ≤ n1 ∧ k ≤ n2 ∧ (n1 - i) + (n2 - k) ≤ gg ∧ Aside (commonS (xs.drop i) (ys.drop k) acc = res) ∧ Aside (CmI w acc (i + k) wr))
  case atStart =>
    exact ⟨0, 0, [], rfl, rfl, Nat.zero_le _, Nat.zero_le _, by omega, Hres.out, { below := (by (try show Below _ _ _); repeat (first | (with_reducible refine Below.setCell ?_ (by first | omega | (simp <;> omega)) _) | (with_reducible refine Below.alloc ?_ (by first | omega | (simp <;> omega)) _) | (with_reducible refine Below.drew ?_) | (with_reducible exact Below.refl _ _) | (with_reducible refine below_call ?_ (by assumption) (by first | omega | (simp <;> omega))) | (with_reducible refine below_call ?_ (Drew.below (by assumption) _) (by first | omega | (simp <;> omega))))), size := by simp, bf := by simp [go_sem], box := ⟨.slice none 0 0, by simp [go_sem], OwnR.nil _ _, fun _ => rfl⟩, bd := fun x hx => absurd hx (by simp), len := by simp }⟩
  case round =>
    obtain ⟨i, k, acc, rfl, rfl, hi, hk, hg, hcm, I⟩ := hrel
    have hsz := I.out.size
    by_cases hlt : i < n1 ∧ k < n2
    · obtain ⟨hl1, hl2⟩ := hlt
      obtain ⟨b, o, rfl, _, hlb, hc⟩ := Hx.out (by have := hn1.out; omega)
      obtain ⟨b', o', rfl, _, hlb', hc'⟩ := Hy.out (by have := hn2.out; omega)
      have hd1 := drop_cons_at xs i (by have := hn1.out; omega)
      have hd2 := drop_cons_at ys k (by have := hn2.out; omega)
      have x0 := (I.out.below.cell (p := ⟨b, o + i * 2 + 0, none⟩) hlb).trans (hc i 0 (by have := hn1.out; omega) (by omega))
      have x1 := (I.out.below.cell (p := ⟨b, o + i * 2 + 1, none⟩) hlb).trans (hc i 1 (by have := hn1.out; omega) (by omega))
      have y0 := (I.out.below.cell (p := ⟨b', o' + k * 2 + 0, none⟩) hlb').trans (hc' k 0 (by have := hn2.out; omega) (by omega))
      have y1 := (I.out.below.cell (p := ⟨b', o' + k * 2 + 1, none⟩) hlb').trans (hc' k 1 (by have := hn2.out; omega) (by omega))
      have hbx : bdR (xs[i]?.getD R.d) := by
        rw [List.getElem?_eq_getElem (by have := hn1.out; omega)]
        exact hb1.out _ (List.getElem_mem _)
      have hby : bdR (ys[k]?.getD R.d) := by
        rw [List.getElem?_eq_getElem (by have := hn2.out; omega)]
        exact hb2.out _ (List.getElem_mem _)
      have hcm' := hcm.out
      rw [hd1, hd2] at hcm'
      clear hc hc' hd1 hd2 hcm
      have hdx : ∀ z, xs.drop i = z → ∃ t, t = xs.drop (i + 1) := fun z _ => ⟨_, rfl⟩
      have hd1 := Lib.hid (drop_cons_at xs i (by have := hn1.out; omega))
      have hd2 := Lib.hid (drop_cons_at ys k (by have := hn2.out; omega))
      clear hdx
      generalize xs[i]?.getD R.d = x at *
      generalize ys[k]?.getD R.d = y at *
      obtain ⟨p0, p1⟩ := x
      obtain ⟨q0, q1⟩ := y
      simp only [R.cell, Nat.add_zero, if_true, Nat.one_ne_zero, if_false] at x0 x1 y0 y1
      obtain ⟨⟨bx1, bx2⟩, ⟨bx3, bx4⟩⟩ := hbx
      obtain ⟨⟨by1, by2⟩, ⟨by3, by4⟩⟩ := hby
      simp only at bx1 bx2 bx3 bx4 by1 by2 by3 by4
      have Hcm := Lib.hid hcm'
      clear hcm'
      have t1 : (0 : Int) ≤ (i : Int) := by omega
      have t2 : (0 : Int) ≤ (k : Int) := by omega
      have t3 : (i : Int) < (n1 : Int) := by omega
      have t4 : (k : Int) < (n2 : Int) := by omega
      have s1 : b < wr.heap.size := by omega
      have s2 : b' < wr.heap.size := by omega
      go_upto_region 3 with (fail)
      go_cut [7] (fun s7 wx => s7 = .pointer (some ⟨wr.heap.size, 0, none⟩) ∧ Aside (Below wr.heap.size wr wx ∧ wr.heap.size < wx.heap.size ∧ wx.cell? ⟨wr.heap.size, 0, none⟩ = some (.int .i64 (max p0 q0)) ∧ wx.cell? ⟨wr.heap.size, 1, none⟩ = some (.int .i64 (min p1 q1))))
      case first =>
        go_region_held3 (fun w' => w'.cell? ⟨b, o + i * 2, none⟩ = some (.int .i64 p0) ∧ w'.cell? ⟨b, o + i * 2 + 1, none⟩ = some (.int .i64 p1) ∧ w'.cell? ⟨b', o' + k * 2, none⟩ = some (.int .i64 q0) ∧ w'.cell? ⟨b', o' + k * 2 + 1, none⟩ = some (.int .i64 q1)) (go_keep) (fail)
        all_goals
          go_wp2_with fail
          go_meet
          exact ⟨rfl, (by (try show Below _ _ _); repeat (first | (with_reducible refine Below.setCell ?_ (by first | omega | (simp <;> omega)) _) | (with_reducible refine Below.alloc ?_ (by first | omega | (simp <;> omega)) _) | (with_reducible refine Below.drew ?_) | (with_reducible exact Below.refl _ _) | (with_reducible refine below_call ?_ (by assumption) (by first | omega | (simp <;> omega))) | (with_reducible refine below_call ?_ (Drew.below (by assumption) _) (by first | omega | (simp <;> omega))))), (by simp), (by simp [go_sem]), (by simp [go_sem])⟩
      case rest =>
        obtain ⟨rfl, I2⟩ := hcut
        obtain ⟨wx, hwx, I3⟩ : ∃ wx, wx = _ ∧ (Below wr.heap.size wr wx ∧ wr.heap.size < wx.heap.size ∧ wx.cell? ⟨wr.heap.size, 0, none⟩ = some (.int .i64 (max p0 q0)) ∧ wx.cell? ⟨wr.heap.size, 1, none⟩ = some (.int .i64 (min p1 q1))) := ⟨_, rfl, I2.out⟩
        subst hwx
        clear I2
        obtain ⟨hbw, hzw, r0, r1⟩ := I3
        have J := Lib.hid (I.out.later hbw)
        have x0' := (hbw.cell (p := ⟨b, o + i * 2, none⟩) s1).trans x0
        have x1' := (hbw.cell (p := ⟨b, o + i * 2 + 1, none⟩) s1).trans x1
        have y0' := (hbw.cell (p := ⟨b', o' + k * 2, none⟩) s2).trans y0
        have y1' := (hbw.cell (p := ⟨b', o' + k * 2 + 1, none⟩) s2).trans y1
        clear x0 x1 y0 y1 I
        by_cases hm : max p0 q0 ≤ min p1 q1
        · have hcm2 := Hcm.out
          rw [commonS] at hcm2
          simp only [if_pos hm] at hcm2
          have Hcm2 := Lib.hid hcm2
          obtain ⟨v, v1, v2, v3⟩ := J.out.box
          have hadd := add_any (w.heap.size + 1) w.heap.size v acc (max p0 q0) (min p1 q1) wx (by omega) (by omega) v1 J.out.bf v2 v3 (by have := J.out.len; omega) J.out.bd
          clear hcm2 v1 v2 v3
          go_wp2_with fail
          refine hadd.mono ?_
          rintro e w4 ⟨⟨u, rfl⟩, ha⟩
          have K := Lib.hid (J.out.added ha (by simp only; omega))
          have x1'' := (ha.cell (by omega) (by omega) (o + i * 2 + 1)).trans x1'
          have y1'' := (ha.cell (by omega) (by omega) (o' + k * 2 + 1)).trans y1'
          have hz4 := ha.size
          clear ha hadd x1' y1' x0' y0'
          go_wp2_with fail
          go_quiet (fail)
          generalize hwq5 : World.drewN w4 _ = w5
          have hd5 : Drew w4 w5 := ⟨_, hwq5.symm⟩
          have hb5 : Below w4.heap.size w4 w5 := hd5.below _
          have hz5 := hb5.size
          clear hwq5
          have K5 := Lib.hid (K.out.later hb5)
          by_cases hl : p1 < q1
          · rw [if_pos hl] at Hcm2
            go_wp2
            go_roundg ((n1 - (i + 1)) + (n2 - k))
            case measure => omega
            case rel => exact ⟨i + 1, k, _, by go_num, rfl, by omega, by omega, Nat.le_refl _, (by have := Hcm2.out; rw [hd2.out]; exact this), K5.out.step (by omega)⟩
          · rw [if_neg hl] at Hcm2
            go_wp2
            go_roundg ((n1 - i) + (n2 - (k + 1)))
            case measure => omega
            case rel => exact ⟨i, k + 1, _, rfl, by go_num, by omega, by omega, Nat.le_refl _, (by have := Hcm2.out; rw [hd1.out]; exact this), K5.out.step (by omega)⟩
        · have hcm2 := Hcm.out
          rw [commonS] at hcm2
          simp only [if_neg hm] at hcm2
          have Hcm2 := Lib.hid hcm2
          clear hcm2
          go_wp2_with fail
          go_quiet (fail)
          generalize hwq5 : World.drewN wx _ = w5
          have hd5 : Drew wx w5 := ⟨_, hwq5.symm⟩
          have hb5 : Below wx.heap.size wx w5 := hd5.below _
          have hz5 := hb5.size
          clear hwq5
          have K5 := Lib.hid (J.out.later hb5)
          by_cases hl : p1 < q1
          · rw [if_pos hl] at Hcm2
            go_wp2
            go_roundg ((n1 - (i + 1)) + (n2 - k))
            case measure => omega
            case rel => exact ⟨i + 1, k, _, by go_num, rfl, by omega, by omega, Nat.le_refl _, (by have := Hcm2.out; rw [hd2.out]; exact this), K5.out.step (by omega)⟩
          · rw [if_neg hl] at Hcm2
            go_wp2
            go_roundg ((n1 - i) + (n2 - (k + 1)))
            case measure => omega
            case rel => exact ⟨i, k + 1, _, rfl, by go_num, by omega, by omega, Nat.le_refl _, (by have := Hcm2.out; rw [hd1.out]; exact this), K5.out.step (by omega)⟩
    · have hend : acc = res := by
        have := hcm.out
        rcases (show i = n1 ∨ k = n2 from by omega) with rfl | rfl
        · rw [List.drop_of_length_le (show xs.length ≤ i by have := hn1.out; omega)] at this
          rw [← this]; cases List.drop k ys <;> rw [commonS] <;> simp
        · rw [List.drop_of_length_le (show ys.length ≤ k by have := hn2.out; omega)] at this
          rw [← this]; cases List.drop i xs <;> rw [commonS] <;> simp
      have Hend := Lib.hid hend
      obtain ⟨v, v1, v2, v3⟩ := I.out.box
      have hbe := I.out.below
      have hf := I.out.bf
      obtain ⟨Av, cv, hvv, _, _, _⟩ := v2.reads
      subst hvv
      have V2 := Lib.hid v2
      have V3 := Lib.hid v3
      clear hend v2 v3 hcm
      generalize acc.length = na at *
      have hc2 : ¬ (i : Int) < (n1 : Int) ∨ ((i : Int) < (n1 : Int) ∧ ¬ (k : Int) < (n2 : Int)) := by omega
      rcases hc2 with h1 | ⟨h1, h2⟩
      all_goals
        go_wp2
        refine bodyPost_ret (v := .slice Av na cv) (by simp [results, Try.results132, go_sem, cell_set, v1]) rfl ⟨.slice Av na cv, rfl, ?_, ?_, ?_⟩
        · rw [← Hend.out]
          exact OwnR.base (base := w.heap.size + 1) (show OwnR _ (w.heap.size + 1) _ _ from ownsRow_setCell_below (base := w.heap.size + 1) (a := ⟨w.heap.size, 0, none⟩) V2.out (Nat.lt_succ_self _) _) (Nat.le_succ _)
        · rw [← Hend.out]; exact V3.out
        · exact hbe.setCell (Nat.le_refl _) _



end Go.Proofs.Ytfohdafijfjefaa
