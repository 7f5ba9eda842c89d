/- Thaw: states, kinds of hours, sets of states with numbers of hours. No program's text is read here. -/
import Derived.Test.YtlkecgjpmnganaaLib
set_option linter.unusedSimpArgs false
set_option linter.unusedVariables false
namespace Go.Proofs.Ytlkecgjpmnganaa
/-- rules of thaw -/
structure TR where
  frost : Int
  thaw : Int
  gain : Int
  full : Int
  ice : Int
  most : Int
  melt : Int
  rlow : Int
  rhigh : Int
  pull : Int

/-- valid rules -/
structure TROk (r : TR) : Prop where
  f1 : -600 ≤ r.frost
  f2 : r.frost ≤ r.thaw
  f3 : r.thaw ≤ 600
  g1 : 0 ≤ r.gain
  g2 : r.gain ≤ 60
  u1 : 0 ≤ r.full
  u2 : r.full ≤ 60
  i1 : 0 ≤ r.ice
  i2 : r.ice ≤ 30
  m1 : 0 ≤ r.most
  m2 : r.most ≤ 30
  e1 : 0 ≤ r.melt
  e2 : r.melt ≤ 30
  r1 : 0 ≤ r.rlow
  r2 : r.rlow ≤ r.rhigh
  r3 : r.rhigh ≤ 100000
  p1 : 0 ≤ r.pull
  p2 : r.pull ≤ 100

abbrev St := Int × Int

/-- a state within the rules -/
def stIn (r : TR) (s : St) : Prop := 0 ≤ s.1 ∧ s.1 ≤ r.full ∧ 0 ≤ s.2 ∧ s.2 ≤ r.most

def stepT (r : TR) (s : St) (k : Int) : St × Bool :=
  if k = 1 then ((min r.full (s.1 + r.gain), min r.most (s.2 + r.ice)), false)
  else if k = 2 ∨ (s.1 = 0 ∧ s.2 = 0) then (s, false)
  else if 0 < s.2 then ((s.1, max 0 (s.2 - r.melt)), false)
  else ((s.1 - 1, s.2), true)

theorem stepT_in {r : TR} (h : TROk r) {s : St} (hs : stIn r s) {k : Int} : stIn r (stepT r s k).1 := by
  obtain ⟨a, b⟩ := s
  obtain ⟨h1, h2, h3, h4⟩ := hs
  have := h.g1; have := h.i1; have := h.e1; have := h.u1; have := h.m1
  dsimp only at h1 h2 h3 h4
  unfold stepT stIn
  dsimp only
  split
  · dsimp only; omega
  · split
    · dsimp only; omega
    · split
      · dsimp only; omega
      · rename_i h7 h8 h9
        dsimp only
        have : ¬ (a = 0 ∧ b = 0) := fun e => h8 (Or.inr e)
        omega

/-- what an hour may do -/
def canT (r : TR) (lo hi k : Int) : Bool :=
  if k = 1 then decide (lo < r.frost) else if k = 2 then decide (max lo r.frost ≤ min hi r.thaw) else decide (r.thaw < hi)
def kindsT (r : TR) (lo hi : Int) : List Int := [1, 2, 3].filter (canT r lo hi)

theorem kindsT_ne {r : TR} (h : TROk r) {lo hi : Int} (hl : lo ≤ hi) : kindsT r lo hi ≠ [] := by
  have := h.f2
  intro e
  have h1 : (1 : Int) ∉ kindsT r lo hi := by rw [e]; simp
  have h2 : (2 : Int) ∉ kindsT r lo hi := by rw [e]; simp
  have h3 : (3 : Int) ∉ kindsT r lo hi := by rw [e]; simp
  simp [kindsT, canT] at h1 h2 h3
  omega

/-- sets of states with numbers of hours -/
abbrev Cs := St → Int → Prop
/-- a field of counts -/
abbrev Fl := St → Option (Int × Int)

def Rep1 (o : Option (Int × Int)) (D : Int → Prop) : Prop :=
  match o with
  | none => ∀ n, ¬ D n
  | some (lo, hi) => D lo ∧ D hi ∧ ∀ n, D n → lo ≤ n ∧ n ≤ hi

theorem Rep1.congr {o : Option (Int × Int)} {D D' : Int → Prop} (h : Rep1 o D) (e : ∀ n, D n ↔ D' n) : Rep1 o D' := by
  have : D = D' := funext fun n => propext (e n)
  rwa [← this]

theorem Rep1.uniq {o o' : Option (Int × Int)} {D : Int → Prop} (h : Rep1 o D) (h' : Rep1 o' D) : o = o' := by
  cases o with
  | none =>
    cases o' with
    | none => rfl
    | some p => exact absurd h'.1 (h _)
  | some p =>
    cases o' with
    | none => exact absurd h.1 (h' _)
    | some q =>
      obtain ⟨a, b⟩ := p
      obtain ⟨c, d⟩ := q
      obtain ⟨h1, h2, h3⟩ := h
      obtain ⟨k1, k2, k3⟩ := h'
      have := h3 _ k1; have := h3 _ k2; have := k3 _ h1; have := k3 _ h2
      have : a = c := by omega
      have : b = d := by omega
      subst a; subst b; rfl

/-- two counts together -/
def withC : Option (Int × Int) → Option (Int × Int) → Option (Int × Int)
  | none, d => d
  | c, none => c
  | some (a, b), some (c, d) => some (min a c, max b d)

theorem Rep1.with {o o' : Option (Int × Int)} {D D' : Int → Prop} (h : Rep1 o D) (h' : Rep1 o' D') : Rep1 (withC o o') (fun n => D n ∨ D' n) := by
  cases o with
  | none => exact h'.congr fun n => ⟨Or.inr, fun k => k.elim (fun k => absurd k (h n)) id⟩
  | some p =>
    cases o' with
    | none => exact h.congr fun n => ⟨Or.inl, fun k => k.elim id (fun k => absurd k (h' n))⟩
    | some q =>
      obtain ⟨a, b⟩ := p
      obtain ⟨c, d⟩ := q
      obtain ⟨h1, h2, h3⟩ := h
      obtain ⟨k1, k2, k3⟩ := h'
      refine ⟨?_, ?_, ?_⟩
      · rcases Int.le_total a c with h | h
        · rw [Int.min_eq_left h]; exact Or.inl h1
        · rw [Int.min_eq_right h]; exact Or.inr k1
      · rcases Int.le_total b d with h | h
        · rw [Int.max_eq_right h]; exact Or.inr k2
        · rw [Int.max_eq_left h]; exact Or.inl h2
      · rintro n (h | h)
        · have := h3 n h; omega
        · have := k3 n h; omega

theorem Rep1.le {p : Int × Int} {D : Int → Prop} (h : Rep1 (some p) D) : p.1 ≤ p.2 := (h.2.2 _ h.1).2

/-- a field stands for a set -/
def Rep (F : Fl) (C : Cs) : Prop := ∀ s, Rep1 (F s) (C s)
theorem Rep.uniq {F G : Fl} {C : Cs} (h : Rep F C) (k : Rep G C) : F = G := funext fun s => (h s).uniq (k s)
theorem Rep.congr {F : Fl} {C C' : Cs} (h : Rep F C) (e : ∀ s n, C s n ↔ C' s n) : Rep F C' := fun s => (h s).congr (e s)

/-- all states together -/
def anyC (C : Cs) : Int → Prop := fun n => ∃ s, C s n

/-- a count added at a state -/
def addF (F : Fl) (s : St) (d : Option (Int × Int)) : Fl := fun t => if t = s then withC (F s) d else F t
theorem Rep.add {F : Fl} {C : Cs} {d : Option (Int × Int)} {D : Int → Prop} (h : Rep F C) (s : St) (hd : Rep1 d D) : Rep (addF F s d) (fun t n => C t n ∨ (t = s ∧ D n)) := by
  intro t
  unfold addF
  by_cases e : t = s
  · subst e
    rw [if_pos rfl]
    exact ((h t).with hd).congr fun n => ⟨fun k => k.imp id fun k => ⟨rfl, k⟩, fun k => k.imp id And.right⟩
  · rw [if_neg e]
    exact (h t).congr fun n => ⟨Or.inl, fun k => k.elim id fun k => absurd k.1 e⟩

/-- what one state and one kind bring -/
def contr (r : TR) (may : Bool → Bool) (C : Cs) (s : St) (k : Int) : Cs := fun s' n' =>
  may (stepT r s k).2 = true ∧ s' = (stepT r s k).1 ∧ ∃ n, C s n ∧ n' = n + (if (stepT r s k).2 then 1 else 0)
/-- the set behind an hour -/
def hourC (r : TR) (lo hi : Int) (may : Bool → Bool) (C : Cs) : Cs := fun s' n' => ∃ s k, k ∈ kindsT r lo hi ∧ contr r may C s k s' n'

def bump (b : Bool) (p : Int × Int) : Int × Int := if b then (p.1 + 1, p.2 + 1) else p

theorem Rep1.bump {p : Int × Int} {D : Int → Prop} (h : Rep1 (some p) D) (b : Bool) : Rep1 (some (bump b p)) (fun n' => ∃ n, D n ∧ n' = n + (if b then 1 else 0)) := by
  obtain ⟨lo, hi⟩ := p
  obtain ⟨h1, h2, h3⟩ := h
  cases b
  · exact ⟨⟨lo, h1, by simp⟩, ⟨hi, h2, by simp⟩, fun n ⟨m, hm, e⟩ => by have := h3 m hm; simp at e; omega⟩
  · exact ⟨⟨lo, h1, by simp⟩, ⟨hi, h2, by simp⟩, fun n ⟨m, hm, e⟩ => by have := h3 m hm; simp at e; omega⟩

/-- one kind of one state taken in -/
theorem Rep.kind {r : TR} {may : Bool → Bool} {C : Cs} {F : Fl} {E : Cs} (h : Rep F E) {s : St} {p : Int × Int} (hs : Rep1 (some p) (C s)) (k : Int) (hm : may (stepT r s k).2 = true) :
    Rep (addF F (stepT r s k).1 (some (bump (stepT r s k).2 p))) (fun t n => E t n ∨ contr r may C s k t n) :=
  (h.add (stepT r s k).1 (hs.bump (stepT r s k).2)).congr fun t n => by
    unfold contr
    constructor
    · rintro (h | ⟨h1, h2⟩)
      · exact Or.inl h
      · exact Or.inr ⟨hm, h1, h2⟩
    · rintro (h | ⟨_, h1, h2⟩)
      · exact Or.inl h
      · exact Or.inr ⟨h1, h2⟩

/-- a set whose states lie within the rules -/
def CIn (r : TR) (C : Cs) : Prop := ∀ s n, C s n → stIn r s
theorem hourC_in {r : TR} (h : TROk r) {C : Cs} (hc : CIn r C) (lo hi : Int) (may : Bool → Bool) : CIn r (hourC r lo hi may C) := by
  rintro s' n' ⟨s, k, _, _, rfl, n, hn, _⟩
  exact stepT_in h (hc s n hn)

/-- one state, nothing yet -/
def oneC (s : St) : Cs := fun t n => t = s ∧ n = 0
theorem oneC_in {r : TR} {s : St} (h : stIn r s) : CIn r (oneC s) := by rintro t n ⟨rfl, _⟩; exact h

/-- behind weather -/
def thruC (r : TR) : List (Int × Int) → Cs → Cs
  | [], C => C
  | t :: w, C => thruC r w (hourC r t.1 t.2 (fun _ => true) C)
theorem thruC_snoc (r : TR) (t : Int × Int) : ∀ (w : List (Int × Int)) (C : Cs), thruC r (w ++ [t]) C = hourC r t.1 t.2 (fun _ => true) (thruC r w C)
  | [], _ => rfl
  | _ :: w, _ => thruC_snoc r t w _
theorem thruC_in {r : TR} (h : TROk r) : ∀ (w : List (Int × Int)) {C : Cs}, CIn r C → CIn r (thruC r w C)
  | [], _, hc => hc
  | t :: w, _, hc => thruC_in h w (hourC_in h hc t.1 t.2 _)

/-- numbers stay small -/
theorem hourC_bd {r : TR} {C : Cs} {b : Int} (h : ∀ s n, C s n → 0 ≤ n ∧ n ≤ b) (lo hi : Int) (may : Bool → Bool) : ∀ s n, hourC r lo hi may C s n → 0 ≤ n ∧ n ≤ b + 1 := by
  rintro s' n' ⟨s, k, _, _, rfl, n, hn, rfl⟩
  have := h s n hn
  split <;> omega

end Go.Proofs.Ytlkecgjpmnganaa
