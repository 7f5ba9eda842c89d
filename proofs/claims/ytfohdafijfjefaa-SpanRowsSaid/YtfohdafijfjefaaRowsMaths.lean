/- Plain laws for SpanRows: what its calls tell. No program's text is read here. -/
import Derived.Test.YtfohdafijfjefaaOwn
import Derived.Test.YtfohdafijfjefaaRefWhere
import Derived.Test.YtfohdafijfjefaaSetsW
import Derived.Test.YtfohdafijfjefaaValuesB

section
set_option linter.unusedSimpArgs false
set_option linter.unusedVariables false
namespace Go.Proofs.Ytfohdafijfjefaa
open Go.RowKit Go.Shelf

def mem (xs : List R) (z : Int) : Prop := ∃ r ∈ xs, r.lo ≤ z ∧ z ≤ r.hi
theorem mem_nil (z : Int) : ¬ mem [] z := by rintro ⟨r, h, -⟩; simp at h
theorem mem_cons (x : R) (xs : List R) (z : Int) : mem (x :: xs) z ↔ (x.lo ≤ z ∧ z ≤ x.hi) ∨ mem xs z := by
  unfold mem
  simp

/-- valid ranges, each beginning more than one behind the one in front; all at b or behind -/
def normL : Int → List R → Prop
  | _, [] => True
  | b, r :: rs => b ≤ r.lo ∧ r.lo ≤ r.hi ∧ normL (r.hi + 2) rs

theorem normL_lb {xs : List R} : ∀ {b z : Int}, normL b xs → mem xs z → b ≤ z := by
  induction xs with
  | nil => intro b z _ h; exact absurd h (mem_nil z)
  | cons x xs ih =>
    intro b z h hm
    obtain ⟨h1, h2, h3⟩ := h
    rcases (mem_cons _ _ _).1 hm with h4 | h4
    · omega
    · have := ih h3 h4; omega

theorem normL_unique {xs : List R} : ∀ {ys : List R} {b : Int}, normL b xs → normL b ys → (∀ z, mem xs z ↔ mem ys z) → xs = ys := by
  induction xs with
  | nil =>
    intro ys b _ hy h
    cases ys with
    | nil => rfl
    | cons s ss => exact absurd ((h s.lo).2 ((mem_cons _ _ _).2 (.inl ⟨Int.le_refl _, hy.2.1⟩))) (mem_nil _)
  | cons r rs ih =>
    intro ys b hx hy h
    cases ys with
    | nil => exact absurd ((h r.lo).1 ((mem_cons _ _ _).2 (.inl ⟨Int.le_refl _, hx.2.1⟩))) (mem_nil _)
    | cons s ss =>
      obtain ⟨x1, x2, x3⟩ := hx
      obtain ⟨y1, y2, y3⟩ := hy
      have a1 : s.lo ≤ r.lo := by
        rcases (mem_cons _ _ _).1 ((h r.lo).1 ((mem_cons _ _ _).2 (.inl ⟨Int.le_refl _, x2⟩))) with h4 | h4
        · exact h4.1
        · have := normL_lb y3 h4; omega
      have a2 : r.lo ≤ s.lo := by
        rcases (mem_cons _ _ _).1 ((h s.lo).2 ((mem_cons _ _ _).2 (.inl ⟨Int.le_refl _, y2⟩))) with h4 | h4
        · exact h4.1
        · have := normL_lb x3 h4; omega
      have a3 : s.hi ≤ r.hi := by
        rcases Int.lt_or_le r.hi s.hi with h5 | h5
        · rcases (mem_cons _ _ _).1 ((h (r.hi + 1)).2 ((mem_cons _ _ _).2 (.inl ⟨by omega, by omega⟩))) with h4 | h4
          · omega
          · have := normL_lb x3 h4; omega
        · exact h5
      have a4 : r.hi ≤ s.hi := by
        rcases Int.lt_or_le s.hi r.hi with h5 | h5
        · rcases (mem_cons _ _ _).1 ((h (s.hi + 1)).1 ((mem_cons _ _ _).2 (.inl ⟨by omega, by omega⟩))) with h4 | h4
          · omega
          · have := normL_lb y3 h4; omega
        · exact h5
      obtain ⟨r0, r1⟩ := r
      obtain ⟨s0, s1⟩ := s
      simp only at *
      obtain rfl : r0 = s0 := by omega
      obtain rfl : r1 = s1 := by omega
      rw [ih x3 y3 fun z => ⟨fun hz => ?_, fun hz => ?_⟩]
      · have hb := normL_lb x3 hz
        rcases (mem_cons _ _ _).1 ((h z).1 ((mem_cons _ _ _).2 (.inr hz))) with h4 | h4
        · simp only at h4; omega
        · exact h4
      · have hb := normL_lb y3 hz
        rcases (mem_cons _ _ _).1 ((h z).2 ((mem_cons _ _ _).2 (.inr hz))) with h4 | h4
        · simp only at h4; omega
        · exact h4

theorem normL_mono {xs : List R} {b b' : Int} (h : normL b xs) (hb : b' ≤ b) : normL b' xs := by
  cases xs with
  | nil => trivial
  | cons x xs => exact ⟨Int.le_trans hb h.1, h.2⟩

theorem addR_cons (x y : R) (ys : List R) (r : R) : addR (x :: y :: ys) r = x :: addR (y :: ys) r := by
  rcases List.eq_nil_or_concat (y :: ys) with h | ⟨zs, l, h⟩
  · exact absurd h (by simp)
  · rw [List.concat_eq_append] at h
    rw [h, ← List.cons_append, addR_snoc, addR_snoc]
    split <;> rfl

/-- one more range, whose lower end lies in front of none -/
theorem addR_norm {xs : List R} {r : R} (hr : r.lo ≤ r.hi) : ∀ {b : Int}, normL b xs → (∀ m ∈ xs, m.lo ≤ r.lo) → b ≤ r.lo → normL b (addR xs r) := by
  induction xs with
  | nil => intro b _ _ hb; rw [addR_nil]; exact ⟨hb, hr, trivial⟩
  | cons x xs ih =>
    intro b h hm hb
    obtain ⟨h1, h2, h3⟩ := h
    cases xs with
    | nil =>
      have hx := hm x (by simp)
      have := addR_snoc [] x r
      simp only [List.nil_append] at this
      rw [this]
      split
      · exact ⟨h1, by simp only; omega, trivial⟩
      · exact ⟨h1, h2, by omega, hr, trivial⟩
    | cons y ys =>
      rw [addR_cons]
      refine ⟨h1, h2, ih h3 (fun m hh => hm m (by simp [hh])) ?_⟩
      have := hm y (by simp)
      have := h3.1
      omega
theorem addR_mem {xs : List R} {r : R} (hr : r.lo ≤ r.hi) : ∀ {b : Int}, normL b xs → (∀ m ∈ xs, m.lo ≤ r.lo) → ∀ z, mem (addR xs r) z ↔ mem xs z ∨ (r.lo ≤ z ∧ z ≤ r.hi) := by
  induction xs with
  | nil => intro b _ _ z; rw [addR_nil, mem_cons]; constructor <;> (rintro (h | h) <;> simp_all)
  | cons x xs ih =>
    intro b h hm z
    obtain ⟨h1, h2, h3⟩ := h
    cases xs with
    | nil =>
      have hx := hm x (by simp)
      have := addR_snoc [] x r
      simp only [List.nil_append] at this
      have hnil := mem_nil z
      rw [this]
      split
      · rw [mem_cons, mem_cons]
        simp only
        constructor
        · rintro (h | h)
          · by_cases hz : z ≤ x.hi
            · exact .inl (.inl ⟨h.1, hz⟩)
            · exact .inr (by omega)
          · exact absurd h hnil
        · rintro ((h | h) | h)
          · exact .inl (by omega)
          · exact absurd h hnil
          · exact .inl (by omega)
      · rw [List.singleton_append, mem_cons, mem_cons, mem_cons]
        constructor
        · rintro (h | h | h)
          · exact .inl (.inl h)
          · exact .inr h
          · exact absurd h hnil
        · rintro ((h | h) | h)
          · exact .inl h
          · exact absurd h hnil
          · exact .inr (.inl h)
    | cons y ys =>
      rw [addR_cons, mem_cons, mem_cons, ih h3 (fun m hh => hm m (by simp [hh]))]
      exact or_assoc.symm

end Go.Proofs.Ytfohdafijfjefaa

end

section
set_option linter.unusedSimpArgs false
set_option linter.unusedVariables false
namespace Go.Proofs.Ytfohdafijfjefaa
open Go.RowKit Go.Shelf

def inY (y v : R) : Prop := y.lo ≤ v.lo ∧ v.hi ≤ y.hi

theorem s_mem (a b y : R) (z : Int) (h : a.lo < b.lo) (hd : b.lo - a.lo ≤ 4000000000) : (sF a b y ≤ z ∧ z ≤ sL a b y - 1) ↔ (a.lo ≤ z ∧ z ≤ b.lo ∧ inY y (valAt a b z)) := by
  obtain ⟨⟨k1, k2⟩, k3, k4⟩ := sF_btw a b y h
  have key : a.lo ≤ z → z ≤ b.lo → ((sF a b y ≤ z ∧ z ≤ sL a b y - 1) ↔ inY y (valAt a b z)) := by
    intro h1 h2
    obtain ⟨t1, t2⟩ := sF_test a b y z h h1 h2 hd
    rw [← t1, show z ≤ sL a b y - 1 ↔ ¬ sL a b y ≤ z by omega, ← t2]
    unfold inY srchT
    cases decide (a.hi ≤ b.hi) <;> simp only [decide_eq_true_eq] <;> omega
  constructor
  · rintro ⟨h1, h2⟩
    exact ⟨by omega, by omega, (key (by omega) (by omega)).1 ⟨h1, h2⟩⟩
  · rintro ⟨h1, h2, h3⟩
    exact (key h1 h2).2 h3

theorem addR_lo (xs : List R) (r : R) : ∀ m ∈ addR xs r, (∃ x ∈ xs, m.lo = x.lo) ∨ m.lo = r.lo := by
  rcases List.eq_nil_or_concat xs with rfl | ⟨ys, l, rfl⟩
  · intro m hm; rw [addR_nil] at hm; simp at hm; subst hm; exact .inr rfl
  · rw [List.concat_eq_append]
    intro m hm
    rw [addR_snoc] at hm
    split at hm
    · rw [List.mem_append] at hm
      rcases hm with hm | hm
      · exact .inl ⟨m, by simp [hm], rfl⟩
      · simp at hm; subst hm; exact .inl ⟨l, by simp, rfl⟩
    · rw [List.mem_append] at hm
      rcases hm with hm | hm
      · exact .inl ⟨m, hm, rfl⟩
      · simp at hm; subst hm; exact .inr rfl

theorem first_le {t : List R} (hok : rowsOk t t.length) {k : Nat} (hk : k < t.length) : firstX t ≤ (t[k]?.getD R.d).lo := by
  unfold firstX
  rcases Nat.eq_zero_or_pos k with rfl | h
  · exact Int.le_refl _
  · exact Int.le_of_lt (rows_mono hok 0 k h hk)

theorem wh_mem (t : List R) (y : R) (hok : rowsOk t t.length) (k : Nat) (hk : k + 1 ≤ t.length) :
    normL (firstX t) (whF t y k) ∧ (∀ m ∈ whF t y k, m.lo ≤ (t[k]?.getD R.d).lo) ∧
    ∀ z, mem (whF t y k) z ↔ (1 ≤ k ∧ firstX t ≤ z ∧ z ≤ (t[k]?.getD R.d).lo ∧ inY y (valS t z)) := by
  induction k with
  | zero =>
    have e : whF t y 0 = [] := rfl
    rw [e]
    exact ⟨trivial, fun m hm => absurd hm (by simp), fun z => ⟨fun h => absurd h (mem_nil z), fun h => absurd h.1 (by omega)⟩⟩
  | succ k ih =>
    obtain ⟨i1, i2, i3⟩ := ih (by omega)
    obtain ⟨ta, -⟩ := rowsOk_at hok k (by omega)
    obtain ⟨tb, -⟩ := rowsOk_at hok (k + 1) (by omega)
    have hlt := rows_mono hok k (k + 1) (by omega) (by omega)
    have hf := first_le hok (k := k) (by omega)
    have hb := sF_btw (t[k]?.getD R.d) (t[k + 1]?.getD R.d) y hlt
    have hs := fun z => s_mem (t[k]?.getD R.d) (t[k + 1]?.getD R.d) y z hlt (by omega)
    have hv := fun z h1 h2 => valS_seg hok (k := k) (by omega) (x := z) h1 h2
    have h0 : k = 0 → (t[k]?.getD R.d).lo = firstX t := fun h => by rw [h]; rfl
    rw [wh_step t y k hlt]
    generalize whF t y k = acc at *
    generalize t[k]?.getD R.d = a at *
    generalize t[k + 1]?.getD R.d = b at *
    have e : ∀ z, (mem acc z ∨ (sF a b y ≤ z ∧ z ≤ sL a b y - 1)) ↔ (1 ≤ k + 1 ∧ firstX t ≤ z ∧ z ≤ b.lo ∧ inY y (valS t z)) := by
      intro z
      rw [i3, hs]
      constructor
      · rintro (⟨_, h2, h3, h4⟩ | ⟨h1, h2, h3⟩)
        · exact ⟨by omega, h2, by omega, h4⟩
        · rw [← hv z h1 h2] at h3
          exact ⟨by omega, by omega, h2, h3⟩
      · rintro ⟨_, h2, h3, h4⟩
        rcases Int.lt_or_le z a.lo with h5 | h5
        · refine .inl ⟨?_, h2, by omega, h4⟩
          rcases Nat.eq_zero_or_pos k with h6 | h6
          · have := h0 h6; omega
          · exact h6
        · exact .inr ⟨h5, h3, by rw [← hv z h5 h3]; exact h4⟩
    by_cases hc : sF a b y ≤ sL a b y - 1
    · rw [if_pos hc]
      have hm : ∀ m ∈ acc, m.lo ≤ sF a b y := fun m h => by have := i2 m h; omega
      refine ⟨addR_norm (r := ⟨sF a b y, sL a b y - 1⟩) hc i1 hm (by simp only; omega), fun m h => ?_, fun z => ?_⟩
      · rcases addR_lo _ _ m h with ⟨x, hx, hxx⟩ | hxx
        · have := i2 x hx; omega
        · simp only at hxx; omega
      · rw [addR_mem (r := ⟨sF a b y, sL a b y - 1⟩) hc i1 hm z]
        exact e z
    · rw [if_neg hc]
      refine ⟨i1, fun m h => by have := i2 m h; omega, fun z => ?_⟩
      rw [← e z]
      constructor
      · exact .inl
      · rintro (h | h)
        · exact h
        · omega

/-- the places of a whole table -/
theorem whole_mem (t : List R) (y : R) (hok : tableS t = true) : normL (firstX t) (whF t y (t.length - 1)) ∧ ∀ z, mem (whF t y (t.length - 1)) z ↔ (firstX t ≤ z ∧ z ≤ lastX t ∧ inY y (valS t z)) := by
  obtain ⟨h1, h2, h3⟩ := (tableS_iff t).1 hok
  obtain ⟨w1, -, w3⟩ := wh_mem t y h1 (t.length - 1) (by omega)
  refine ⟨w1, fun z => ?_⟩
  rw [w3]
  unfold lastX
  constructor
  · rintro ⟨_, h⟩; exact h
  · intro h; exact ⟨by omega, h⟩

end Go.Proofs.Ytfohdafijfjefaa

end

section
set_option linter.unusedSimpArgs false
set_option linter.unusedVariables false
namespace Go.Proofs.Ytfohdafijfjefaa
open Go.RowKit Go.Shelf

theorem common_step {acc : List R} {B p q : Int} (x y : R) (ha : normL B acc) (hm : ∀ m ∈ acc, m.lo ≤ max p q) (hB : B ≤ max p q) (hx : p ≤ x.lo) (hy : q ≤ y.lo) :
    normL B (if max x.lo y.lo ≤ min x.hi y.hi then addR acc ⟨max x.lo y.lo, min x.hi y.hi⟩ else acc) ∧
    (∀ m ∈ (if max x.lo y.lo ≤ min x.hi y.hi then addR acc ⟨max x.lo y.lo, min x.hi y.hi⟩ else acc), m.lo ≤ max p q ∨ (m.lo ≤ min x.hi y.hi)) ∧
    ∀ z, mem (if max x.lo y.lo ≤ min x.hi y.hi then addR acc ⟨max x.lo y.lo, min x.hi y.hi⟩ else acc) z ↔ mem acc z ∨ ((x.lo ≤ z ∧ z ≤ x.hi) ∧ (y.lo ≤ z ∧ z ≤ y.hi)) := by
  by_cases hc : max x.lo y.lo ≤ min x.hi y.hi
  · rw [if_pos hc]
    have hm' : ∀ m ∈ acc, m.lo ≤ max x.lo y.lo := fun m h => by have := hm m h; omega
    refine ⟨addR_norm (r := ⟨max x.lo y.lo, min x.hi y.hi⟩) hc ha hm' (by simp only; omega), fun m h => ?_, fun z => ?_⟩
    · rcases List.eq_nil_or_concat acc with rfl | ⟨ys, l, rfl⟩
      · rw [addR_nil] at h; simp at h; subst h; exact .inr hc
      · rw [List.concat_eq_append] at *
        rw [addR_snoc] at h
        split at h
        · rw [List.mem_append] at h
          rcases h with h | h
          · exact .inl (hm m (by simp [h]))
          · simp at h; subst h; exact .inl (hm l (by simp))
        · rw [List.mem_append] at h
          rcases h with h | h
          · exact .inl (hm m h)
          · simp at h; subst h; exact .inr hc
    · rw [addR_mem (r := ⟨max x.lo y.lo, min x.hi y.hi⟩) hc ha hm' z]
      simp only
      constructor
      · rintro (h | h)
        · exact .inl h
        · exact .inr (by omega)
      · rintro (h | h)
        · exact .inl h
        · exact .inr (by omega)
  · rw [if_neg hc]
    refine ⟨ha, fun m h => .inl (hm m h), fun z => ?_⟩
    constructor
    · exact .inl
    · rintro (h | h)
      · exact h
      · omega

theorem common_mem (xs ys acc : List R) : ∀ {B p q : Int}, normL p xs → normL q ys → normL B acc → (∀ m ∈ acc, m.lo ≤ max p q) → B ≤ max p q →
    normL B (commonS xs ys acc) ∧ ∀ z, mem (commonS xs ys acc) z ↔ mem acc z ∨ (mem xs z ∧ mem ys z) := by
  refine commonS.induct (motive := fun xs ys acc => ∀ {B p q : Int}, normL p xs → normL q ys → normL B acc → (∀ m ∈ acc, m.lo ≤ max p q) → B ≤ max p q →
    normL B (commonS xs ys acc) ∧ ∀ z, mem (commonS xs ys acc) z ↔ mem acc z ∨ (mem xs z ∧ mem ys z)) ?_ ?_ ?_ xs ys acc
  · intro x a y b acc acc' hlt ih B p q hx hy ha hm hB
    obtain ⟨x1, x2, x3⟩ := hx
    have hy' := hy
    obtain ⟨y1, y2, y3⟩ := hy
    obtain ⟨s1, s2, s3⟩ := common_step x y ha hm hB x1 y1
    obtain ⟨i1, i2⟩ := ih (B := B) x3 hy' s1 (fun m h => by have := s2 m h; omega) (by omega)
    rw [commonS]
    rw [if_pos hlt]
    refine ⟨i1, fun z => ?_⟩
    refine (i2 z).trans ?_
    have s3' : mem acc' z ↔ _ := s3 z
    rw [s3', mem_cons x a, mem_cons y b]
    constructor
    · rintro ((h | h) | h)
      · exact .inl h
      · exact .inr ⟨.inl h.1, .inl h.2⟩
      · exact .inr ⟨.inr h.1, h.2⟩
    · rintro (h | ⟨h | h, h'⟩)
      · exact .inl (.inl h)
      · rcases h' with h' | h'
        · exact .inl (.inr ⟨h, h'⟩)
        · have := normL_lb y3 h'; omega
      · exact .inr ⟨h, h'⟩
  · intro x a y b acc acc' hlt ih B p q hx hy ha hm hB
    have hx' := hx
    obtain ⟨x1, x2, x3⟩ := hx
    obtain ⟨y1, y2, y3⟩ := hy
    obtain ⟨s1, s2, s3⟩ := common_step x y ha hm hB x1 y1
    obtain ⟨i1, i2⟩ := ih (B := B) hx' y3 s1 (fun m h => by have := s2 m h; omega) (by omega)
    rw [commonS]
    rw [if_neg hlt]
    refine ⟨i1, fun z => ?_⟩
    refine (i2 z).trans ?_
    have s3' : mem acc' z ↔ _ := s3 z
    rw [s3', mem_cons x a, mem_cons y b]
    constructor
    · rintro ((h | h) | h)
      · exact .inl h
      · exact .inr ⟨.inl h.1, .inl h.2⟩
      · exact .inr ⟨h.1, .inr h.2⟩
    · rintro (h | ⟨h', h | h⟩)
      · exact .inl (.inl h)
      · rcases h' with h' | h'
        · exact .inl (.inr ⟨h', h⟩)
        · have := normL_lb x3 h'; omega
      · exact .inr ⟨h', h⟩
  · intro xs ys acc hne B p q hx hy ha hm hB
    have e : commonS xs ys acc = acc := by
      cases xs with
      | nil => simp [commonS]
      | cons x a =>
        cases ys with
        | nil => simp [commonS]
        | cons y b => exact (hne x a y b rfl rfl).elim
    rw [e]
    refine ⟨ha, fun z => ⟨.inl, ?_⟩⟩
    rintro (h | ⟨h1, h2⟩)
    · exact h
    · cases xs with
      | nil => exact absurd h1 (mem_nil z)
      | cons x a =>
        cases ys with
        | nil => exact absurd h2 (mem_nil z)
        | cons y b => exact (hne x a y b rfl rfl).elim

theorem norm_of_apart : ∀ (xs : List R) (b : Int), (∀ x ∈ xs, x.lo ≤ x.hi) → apart xs xs.length → (∀ x, xs.head? = some x → b ≤ x.lo) → normL b xs := by
  intro xs
  induction xs with
  | nil => intro b _ _ _; trivial
  | cons x xs ih =>
    intro b hv ha hb
    refine ⟨hb x rfl, hv x (by simp), ih _ (fun y h => hv y (by simp [h])) (fun i hi h0 => ?_) (fun y hy => ?_)⟩
    · obtain ⟨j, rfl⟩ : ∃ j, i = j + 1 := ⟨i - 1, by omega⟩
      have := ha (j + 2) (by simp; omega) (by omega)
      simpa using this
    · cases xs with
      | nil => simp at hy
      | cons y' ys =>
        simp at hy
        subst hy
        have := ha 1 (by simp) (by omega)
        simp at this
        omega

theorem set_norm {xs : List R} (h : setS xs = 0) : normL (-1000000000000000) xs := by
  have hok := (setS_ok h).2
  refine norm_of_apart xs _ (fun x hx => by have := (okR_iff _).1 (hok x hx); omega) ?_ (fun x hx => ?_)
  · unfold setS at h
    split at h
    · simp at h
    · split at h
      · simp at h
      · split at h
        · assumption
        · simp at h
  · cases xs with
    | nil => simp at hx
    | cons y ys => simp at hx; subst hx; have := (okR_iff _).1 (hok y (by simp)); omega

end Go.Proofs.Ytfohdafijfjefaa

end

section
set_option linter.unusedSimpArgs false
set_option linter.unusedVariables false
namespace Go.Proofs.Ytfohdafijfjefaa
open Go.RowKit Go.Shelf

theorem div_cross (p q c d : Int) (hc : 0 < c) (hd : 0 < d) (h : p * d = q * c) : p / c = q / d := by
  rw [← Int.mul_ediv_mul_of_pos_left p c hd, h, Int.mul_comm c d, Int.mul_ediv_mul_of_pos_left q d hc]
theorem cdiv_cross (p q c d : Int) (hc : 0 < c) (hd : 0 < d) (h : p * d = q * c) : cdiv p c = cdiv q d := by
  unfold cdiv
  rw [div_cross (-p) (-q) c d hc hd (by rw [Int.neg_mul, Int.neg_mul, h])]
theorem cdiv_add (p e c : Int) (hc : 0 < c) : cdiv (p + e * c) c = cdiv p c + e := by
  unfold cdiv
  rw [show -(p + e * c) = -p + (-e) * c by rw [Int.neg_mul]; omega, Int.add_mul_ediv_right _ _ (by omega)]
  omega

/-- in front of the row -/
theorem ins_left (a b : R) (x v z : Int) (h1 : a.lo < x) (h2 : x < b.lo) (he : (v - a.hi) * (b.lo - a.lo) = (b.hi - a.hi) * (x - a.lo)) : valAt a ⟨x, v⟩ z = valAt a b z := by
  unfold valAt
  simp only
  have hx : (v - a.hi) * (z - a.lo) * (b.lo - a.lo) = (b.hi - a.hi) * (z - a.lo) * (x - a.lo) := by
    rw [Int.mul_right_comm, he, Int.mul_right_comm]
  rw [div_cross _ _ _ _ (by omega) (by omega) hx, cdiv_cross _ _ _ _ (by omega) (by omega) hx]
/-- behind it -/
theorem ins_right (a b : R) (x v z : Int) (h1 : a.lo < x) (h2 : x < b.lo) (he : (v - a.hi) * (b.lo - a.lo) = (b.hi - a.hi) * (x - a.lo)) : valAt ⟨x, v⟩ b z = valAt a b z := by
  unfold valAt
  simp only
  have e1 : (b.hi - v) * (b.lo - a.lo) = (b.hi - a.hi) * (b.lo - x) := by
    rw [show b.hi - v = (b.hi - a.hi) - (v - a.hi) by omega, Int.sub_mul, he, ← Int.mul_sub]
    congr 1
    omega
  have hx : (b.hi - v) * (z - x) * (b.lo - a.lo) = (b.hi - a.hi) * (z - x) * (b.lo - x) := by
    rw [Int.mul_right_comm, e1, Int.mul_right_comm]
  have e2 : (b.hi - a.hi) * (z - a.lo) = (b.hi - a.hi) * (z - x) + (v - a.hi) * (b.lo - a.lo) := by
    rw [he, ← Int.mul_add]
    congr 1
    omega
  have hc : 0 < b.lo - a.lo := by omega
  rw [div_cross _ _ _ _ (by omega) hc hx, cdiv_cross _ _ _ _ (by omega) hc hx, e2, Int.add_mul_ediv_right _ _ (by omega), cdiv_add _ _ _ hc]
  congr 1 <;> omega

theorem exact_of (a b : R) (x v : Int) (h : a.lo < b.lo) (hv : valAt a b x = ⟨v, v⟩) : (v - a.hi) * (b.lo - a.lo) = (b.hi - a.hi) * (x - a.lo) := by
  unfold valAt at hv
  have h1 := congrArg R.lo hv
  have h2 := congrArg R.hi hv
  simp only at h1 h2
  have hc : 0 < b.lo - a.lo := by omega
  obtain ⟨f1, f2⟩ := fdiv_bd ((b.hi - a.hi) * (x - a.lo)) _ hc
  obtain ⟨g1, g2⟩ := cdiv_bd ((b.hi - a.hi) * (x - a.lo)) _ hc
  rw [show (b.hi - a.hi) * (x - a.lo) / (b.lo - a.lo) = v - a.hi by omega] at f1
  rw [show cdiv ((b.hi - a.hi) * (x - a.lo)) (b.lo - a.lo) = v - a.hi by omega] at g1
  rw [Int.mul_comm]
  omega

/-- the table with one more row behind the k-th -/
def insR (t : List R) (k : Nat) (r : R) : List R := t.take (k + 1) ++ r :: t.drop (k + 1)
theorem insR_len (t : List R) (k : Nat) (r : R) (hk : k + 1 < t.length) : (insR t k r).length = t.length + 1 := by
  unfold insR; simp; omega
theorem insR_at (t : List R) (k : Nat) (r : R) (hk : k + 1 < t.length) (j : Nat) : (insR t k r)[j]?.getD R.d = if j ≤ k then t[j]?.getD R.d else if j = k + 1 then r else t[j - 1]?.getD R.d := by
  unfold insR
  by_cases h1 : j ≤ k
  · rw [if_pos h1, List.getElem?_append_left (by simp; omega), List.getElem?_take, if_pos (by omega)]
  · rw [if_neg h1, List.getElem?_append_right (by simp; omega)]
    rw [show (t.take (k + 1)).length = k + 1 by simp; omega]
    by_cases h2 : j = k + 1
    · rw [if_pos h2, h2]; simp
    · rw [if_neg h2, show j - (k + 1) = j - k - 2 + 1 by omega, List.getElem?_cons_succ, List.getElem?_drop, show k + 1 + (j - k - 2) = j - 1 by omega]

theorem ins_ok (t : List R) (k : Nat) (x v : Int) (hok : rowsOk t t.length) (hk : k + 1 < t.length) (h1 : (t[k]?.getD R.d).lo < x) (h2 : x < (t[k + 1]?.getD R.d).lo) (hv : -1000000000 ≤ v ∧ v ≤ 1000000000) : rowsOk (insR t k ⟨x, v⟩) (insR t k ⟨x, v⟩).length := by
  rw [insR_len t k _ hk]
  intro i hi
  obtain ⟨ka, -⟩ := rowsOk_at hok k (by omega)
  obtain ⟨kb, -⟩ := rowsOk_at hok (k + 1) hk
  rw [insR_at t k _ hk i, insR_at t k _ hk (i - 1)]
  by_cases c1 : i ≤ k
  · rw [if_pos c1, if_pos (by omega)]
    exact hok i (by omega)
  · rw [if_neg c1]
    by_cases c2 : i = k + 1
    · rw [if_pos c2, if_pos (by omega)]
      refine ⟨?_, fun _ => ?_⟩
      · unfold btw; simp; omega
      · simp only; rw [show i - 1 = k by omega]; exact h1
    · rw [if_neg c2, if_neg (by omega)]
      obtain ⟨o1, o2⟩ := hok (i - 1) (by omega)
      refine ⟨o1, fun _ => ?_⟩
      by_cases c3 : i - 1 = k + 1
      · rw [if_pos c3, c3]; exact h2
      · rw [if_neg c3]; exact o2 (by omega)

theorem ins_val (t : List R) (k : Nat) (x v z : Int) (hok : rowsOk t t.length) (hk : k + 1 < t.length) (h1 : (t[k]?.getD R.d).lo < x) (h2 : x < (t[k + 1]?.getD R.d).lo) (hv : -1000000000 ≤ v ∧ v ≤ 1000000000)
    (he : valS t x = ⟨v, v⟩) (hl : 2 ≤ t.length) (z1 : firstX t ≤ z) (z2 : z ≤ lastX t) : valS (insR t k ⟨x, v⟩) z = valS t z := by
  have hm := ins_ok t k x v hok hk h1 h2 hv
  have hlen := insR_len t k ⟨x, v⟩ hk
  have hat := insR_at t k ⟨x, v⟩ hk
  have hex := exact_of _ _ x v (rows_mono hok k (k + 1) (by omega) hk) (by rw [← valS_seg hok hk (by omega) (by omega)]; exact he)
  obtain ⟨j, hj1, hj2, hj3⟩ := seg_exists hl z1 z2
  have hj4 : z ≤ (t[j + 1]?.getD R.d).lo := by omega
  rw [valS_seg hok hj1 hj2 hj4]
  rcases Nat.lt_trichotomy j k with c | c | c
  · have a1 := hat j
    have a2 := hat (j + 1)
    rw [if_pos (by omega)] at a1 a2
    rw [valS_seg hm (k := j) (by omega) (by rw [a1]; exact hj2) (by rw [a2]; exact hj4), a1, a2]
  · subst c
    have a1 := hat j
    have a2 := hat (j + 1)
    have a3 := hat (j + 1 + 1)
    rw [if_pos (by omega)] at a1
    rw [if_neg (by omega), if_pos rfl] at a2
    rw [if_neg (by omega), if_neg (by omega), show j + 1 + 1 - 1 = j + 1 by omega] at a3
    by_cases hz : z ≤ x
    · rw [valS_seg hm (k := j) (by omega) (by rw [a1]; exact hj2) (by rw [a2]; exact hz), a1, a2]
      exact ins_left _ _ x v z h1 h2 hex
    · rw [valS_seg hm (k := j + 1) (by omega) (by rw [a2]; simp only; omega) (by rw [a3]; exact hj4), a2, a3]
      exact ins_right _ _ x v z h1 h2 hex
  · have a1 := hat (j + 1)
    have a2 := hat (j + 1 + 1)
    rw [if_neg (by omega), if_neg (by omega), show j + 1 - 1 = j by omega] at a1
    rw [if_neg (by omega), if_neg (by omega), show j + 1 + 1 - 1 = j + 1 by omega] at a2
    rw [valS_seg hm (k := j + 1) (by omega) (by rw [a1]; exact hj2) (by rw [a2]; exact hj4), a1, a2]

theorem ins_where (t : List R) (k : Nat) (x v : Int) (y : R) (hok : tableS t = true) (hl : t.length ≤ 59) (hk : k + 1 < t.length) (h1 : (t[k]?.getD R.d).lo < x) (h2 : x < (t[k + 1]?.getD R.d).lo) (hv : -1000000000 ≤ v ∧ v ≤ 1000000000)
    (he : valS t x = ⟨v, v⟩) : tableS (insR t k ⟨x, v⟩) = true ∧ firstX (insR t k ⟨x, v⟩) = firstX t ∧ lastX (insR t k ⟨x, v⟩) = lastX t ∧ whF (insR t k ⟨x, v⟩) y ((insR t k ⟨x, v⟩).length - 1) = whF t y (t.length - 1) := by
  obtain ⟨r1, r2, r3⟩ := (tableS_iff t).1 hok
  have hlen := insR_len t k ⟨x, v⟩ hk
  have hat := insR_at t k ⟨x, v⟩ hk
  have ht' : tableS (insR t k ⟨x, v⟩) = true := (tableS_iff _).2 ⟨ins_ok t k x v r1 hk h1 h2 hv, by omega, by omega⟩
  have hf : firstX (insR t k ⟨x, v⟩) = firstX t := by unfold firstX; rw [hat 0, if_pos (by omega)]
  have hl' : lastX (insR t k ⟨x, v⟩) = lastX t := by
    unfold lastX
    rw [hat, if_neg (by omega), if_neg (by omega), hlen, show t.length + 1 - 1 - 1 = t.length - 1 by omega]
  refine ⟨ht', hf, hl', ?_⟩
  obtain ⟨a1, a2⟩ := whole_mem _ y ht'
  obtain ⟨b1, b2⟩ := whole_mem t y hok
  rw [hf] at a1
  refine normL_unique a1 b1 fun z => ?_
  rw [a2, b2, hf, hl']
  constructor
  · rintro ⟨z1, z2, z3⟩
    rw [ins_val t k x v z r1 hk h1 h2 hv he r2 z1 z2] at z3
    exact ⟨z1, z2, z3⟩
  · rintro ⟨z1, z2, z3⟩
    rw [← ins_val t k x v z r1 hk h1 h2 hv he r2 z1 z2] at z3
    exact ⟨z1, z2, z3⟩

end Go.Proofs.Ytfohdafijfjefaa

end

section
set_option linter.unusedSimpArgs false
set_option linter.unusedVariables false
namespace Go.Proofs.Ytfohdafijfjefaa
open Go.RowKit Go.Shelf

def rowsStep (st : Int × List R) (s : R) : Int × List R := (st.1 + (1 + s.lo % 65536), st.2 ++ [⟨st.1 + (1 + s.lo % 65536), s.hi⟩])
def rowsF (ss : List R) : Int × List R := ss.foldl rowsStep (0, [])
theorem rowsF_snoc (ss : List R) (k : Nat) (hk : k < ss.length) : rowsF (ss.take (k + 1)) = rowsStep (rowsF (ss.take k)) (ss[k]?.getD R.d) := by
  unfold rowsF
  rw [List.take_succ_eq_append_getElem hk, List.foldl_append]
  simp [List.getElem?_eq_getElem hk]

theorem rowsF_ok (ss : List R) (hs : ∀ s ∈ ss, -32768 ≤ s.hi ∧ s.hi ≤ 32767) (k : Nat) (hk : k ≤ ss.length) (h12 : k ≤ 12) :
    (rowsF (ss.take k)).2.length = k ∧ (0 ≤ (rowsF (ss.take k)).1 ∧ (rowsF (ss.take k)).1 ≤ k * 65536) ∧ rowsOk (rowsF (ss.take k)).2 k ∧
    (0 < k → ((rowsF (ss.take k)).2[k - 1]?.getD R.d).lo = (rowsF (ss.take k)).1) ∧ (∀ i, i < k → ((rowsF (ss.take k)).2[i]?.getD R.d).hi = (ss[i]?.getD R.d).hi) := by
  induction k with
  | zero =>
    have e : rowsF (ss.take 0) = (0, []) := by simp [rowsF]
    rw [e]
    exact ⟨rfl, ⟨by simp, by simp⟩, fun i hi => absurd hi (by omega), fun h => absurd h (by omega), fun i hi => absurd hi (by omega)⟩
  | succ k ih =>
    obtain ⟨i1, ⟨i2, i3⟩, i4, i5, i6⟩ := ih (by omega) (by omega)
    have hm := hs (ss[k]?.getD R.d) (by rw [List.getElem?_eq_getElem (by omega)]; exact List.getElem_mem _)
    rw [rowsF_snoc ss k (by omega)]
    generalize hss : ss[k]?.getD R.d = s at *
    generalize rowsF (ss.take k) = st at *
    obtain ⟨x, t⟩ := st
    unfold rowsStep
    simp only at *
    have e1 : ∀ i, i < k → (t ++ [(⟨x + (1 + s.lo % 65536), s.hi⟩ : R)])[i]? = t[i]? := fun i hi => List.getElem?_append_left (by omega)
    have e2 : (t ++ [(⟨x + (1 + s.lo % 65536), s.hi⟩ : R)])[k]? = some ⟨x + (1 + s.lo % 65536), s.hi⟩ := by rw [← i1]; simp
    refine ⟨by simp [i1], ⟨by omega, by omega⟩, fun i hi => ?_, fun _ => ?_, fun i hi => ?_⟩
    · rcases Nat.lt_or_ge i k with h | h
      · rw [e1 i h]
        obtain ⟨o1, o2⟩ := i4 i h
        refine ⟨o1, fun h0 => ?_⟩
        rw [e1 (i - 1) (by omega)]
        exact o2 h0
      · obtain rfl : i = k := by omega
        rw [e2]
        refine ⟨?_, fun h0 => ?_⟩
        · unfold btw; simp; omega
        · rw [e1 (i - 1) (by omega), i5 h0]
          simp only [Option.getD_some]
          omega
    · rw [Nat.add_sub_cancel, e2]; rfl
    · rcases Nat.lt_or_ge i k with h | h
      · rw [e1 i h]; exact i6 i h
      · obtain rfl : i = k := by omega
        rw [e2, hss]; rfl

theorem rows_table (ss : List R) (hs : ∀ s ∈ ss, -32768 ≤ s.hi ∧ s.hi ≤ 32767) (h2 : 2 ≤ ss.length) (h12 : ss.length ≤ 12) :
    tableS (rowsF ss).2 = true ∧ (rowsF ss).2.length = ss.length := by
  have h := rowsF_ok ss hs ss.length (Nat.le_refl _) h12
  rw [List.take_length] at h
  obtain ⟨i1, -, i4, -, -⟩ := h
  refine ⟨(tableS_iff _).2 ⟨by rw [i1]; exact i4, by omega, by omega⟩, i1⟩

end Go.Proofs.Ytfohdafijfjefaa

end

section
set_option linter.unusedSimpArgs false
set_option linter.unusedVariables false
namespace Go.Proofs.Ytfohdafijfjefaa
set_option linter.unusedSectionVars false
open Go.RowKit Go.Shelf

theorem valAt_gap (a b : R) (x : Int) (h : a.lo < b.lo) : (valAt a b x).lo ≤ (valAt a b x).hi ∧ (valAt a b x).hi ≤ (valAt a b x).lo + 1 := by
  unfold valAt
  simp only
  have hc : 0 < b.lo - a.lo := by omega
  generalize b.lo - a.lo = c at *
  generalize (b.hi - a.hi) * (x - a.lo) = P
  obtain ⟨f1, f2⟩ := fdiv_bd P c hc
  obtain ⟨g1, g2⟩ := cdiv_bd P c hc
  have h1 : P / c ≤ cdiv P c := by
    rcases Int.lt_or_le (cdiv P c) (P / c) with hh | hh
    · have : c * (cdiv P c + 1) ≤ c * (P / c) := Int.mul_le_mul_of_nonneg_left (by omega) (by omega)
      rw [Int.mul_add, Int.mul_one] at this; omega
    · exact hh
  have h2 : cdiv P c ≤ P / c + 1 := by
    rcases Int.lt_or_le (P / c + 1) (cdiv P c) with hh | hh
    · have : c * (P / c + 2) ≤ c * cdiv P c := Int.mul_le_mul_of_nonneg_left (by omega) (by omega)
      rw [Int.mul_add] at this; omega
    · exact hh
  omega

/-- a table of the law, and two places of it -/
structure RowsAt (t : List R) (a b : Int) : Prop where
  ok : tableS t = true
  l12 : t.length ≤ 12
  bd : ∀ i, i < t.length → (0 ≤ (t[i]?.getD R.d).lo ∧ (t[i]?.getD R.d).lo ≤ 1000000) ∧ -32768 ≤ (t[i]?.getD R.d).hi ∧ (t[i]?.getD R.d).hi ≤ 32767
  h1 : firstX t ≤ a
  h2 : a ≤ b
  h3 : b ≤ lastX t

section
variable {t : List R} {a b : Int} (h : RowsAt t a b)
include h

theorem RowsAt.rows : rowsOk t t.length ∧ 2 ≤ t.length ∧ t.length ≤ 60 := (tableS_iff t).1 h.ok
theorem RowsAt.ends : 0 ≤ firstX t ∧ lastX t ≤ 1000000 := by
  have := h.rows
  exact ⟨(h.bd 0 (by omega)).1.1, (h.bd (t.length - 1) (by omega)).1.2⟩
theorem RowsAt.inA : valueIn t a = true := by have := h.h1; have := h.h2; have := h.h3; exact (btw1 _ _ _).2 ⟨by omega, by omega⟩
theorem RowsAt.inB : valueIn t b = true := by have := h.h1; have := h.h2; have := h.h3; exact (btw1 _ _ _).2 ⟨by omega, by omega⟩
theorem RowsAt.valA : valueS t a = (valS t a, 0) := (if_neg (by rw [h.ok]; decide)).trans (if_neg (by rw [h.inA]; decide))
theorem RowsAt.valB : valueS t b = (valS t b, 0) := (if_neg (by rw [h.ok]; decide)).trans (if_neg (by rw [h.inB]; decide))
theorem RowsAt.okAB : okR ⟨a, b⟩ = true := by have := h.h1; have := h.h2; have := h.h3; have := h.ends; exact okR_of _ _ (by omega) (by omega) (by omega)
theorem RowsAt.vals : valuesS t ⟨a, b⟩ = (valsF t ⟨a, b⟩ t.length, 0) := by
  have := h.h1; have := h.h2; have := h.h3
  exact (if_neg (by rw [h.ok, h.okAB]; decide)).trans (if_neg (by rw [show btw (firstX t) (lastX t) [a, b] = true by unfold btw; simp; omega]; decide))

theorem RowsAt.gap : (valS t a).lo ≤ (valS t a).hi ∧ (valS t a).hi ≤ (valS t a).lo + 1 := by
  obtain ⟨r1, r2, r3⟩ := h.rows
  obtain ⟨k, hs⟩ := seg_exists r2 h.h1 (show a ≤ lastX t by have := h.h2; have := h.h3; omega)
  rw [valS_eq r1 hs]
  exact valAt_gap _ _ _ (rows_mono r1 k (k + 1) (by omega) hs.1)
theorem RowsAt.small (z : Int) (h1 : firstX t ≤ z) (h2 : z ≤ lastX t) : (-1000000000 ≤ (valS t z).lo ∧ (valS t z).lo ≤ 1000000000) ∧ (-1000000000 ≤ (valS t z).hi ∧ (valS t z).hi ≤ 1000000000) := by
  obtain ⟨r1, r2, r3⟩ := h.rows
  obtain ⟨k, hs⟩ := seg_exists r2 h1 h2
  rw [valS_eq r1 hs]
  have ha := h.bd k (by have := hs.1; omega)
  have hb := h.bd (k + 1) hs.1
  obtain ⟨s1, s2, s3⟩ := hs
  exact valAt_btw _ _ _ (rows_mono r1 k (k + 1) (by omega) s1) s2 (by omega) (by omega) (by omega)

omit h in
theorem vals_wide (t : List R) (a : R) (k : Nat) : (valsF t a k).lo ≤ min (valS t a.lo).lo (valS t a.hi).lo ∧ max (valS t a.lo).hi (valS t a.hi).hi ≤ (valsF t a k).hi := by
  have key : ∀ (l : List R) (o : R), (l.foldl (valsStep a) o).lo ≤ o.lo ∧ o.hi ≤ (l.foldl (valsStep a) o).hi := by
    intro l
    induction l with
    | nil => intro o; exact ⟨Int.le_refl _, Int.le_refl _⟩
    | cons x l ih =>
      intro o
      rw [List.foldl_cons]
      have := ih (valsStep a o x)
      have e : (valsStep a o x).lo ≤ o.lo ∧ o.hi ≤ (valsStep a o x).hi := by
        unfold valsStep
        split <;> (try simp only) <;> omega
      omega
  exact key _ _
theorem RowsAt.inside : ((valsF t ⟨a, b⟩ t.length).lo ≤ (valS t a).lo ∧ (valS t a).hi ≤ (valsF t ⟨a, b⟩ t.length).hi) ∧ ((valsF t ⟨a, b⟩ t.length).lo ≤ (valS t b).lo ∧ (valS t b).hi ≤ (valsF t ⟨a, b⟩ t.length).hi) := by
  have := vals_wide t ⟨a, b⟩ t.length
  simp only at this
  omega

omit h in
theorem vals_has (t : List R) (a : R) (i k : Nat) (hi : i < k) (hk : k ≤ t.length) (hin : a.lo ≤ (t[i]?.getD R.d).lo ∧ (t[i]?.getD R.d).lo ≤ a.hi) : (valsF t a k).lo ≤ (t[i]?.getD R.d).hi ∧ (t[i]?.getD R.d).hi ≤ (valsF t a k).hi := by
  induction k with
  | zero => omega
  | succ k ih =>
    rw [valsF_succ t a k (by omega)]
    rcases Nat.lt_or_ge i k with c | c
    · have := ih c (by omega)
      unfold valsStep
      split <;> (try simp only) <;> omega
    · obtain rfl : i = k := by omega
      unfold valsStep
      rw [if_pos ((btw1 _ _ _).2 hin)]
      simp only
      omega
theorem RowsAt.has (i : Nat) (hi : i < t.length) (hin : a ≤ (t[i]?.getD R.d).lo ∧ (t[i]?.getD R.d).lo ≤ b) : (valsF t ⟨a, b⟩ t.length).lo ≤ (t[i]?.getD R.d).hi ∧ (t[i]?.getD R.d).hi ≤ (valsF t ⟨a, b⟩ t.length).hi :=
  vals_has t ⟨a, b⟩ i t.length hi (Nat.le_refl _) hin

theorem RowsAt.row (i : Nat) (hi : i < t.length) : valueS t (t[i]?.getD R.d).lo = (⟨(t[i]?.getD R.d).hi, (t[i]?.getD R.d).hi⟩, 0) := by
  obtain ⟨r1, r2, r3⟩ := h.rows
  have hf := first_le r1 hi
  have hl : (t[i]?.getD R.d).lo ≤ lastX t := by
    unfold lastX
    rcases Nat.lt_or_ge i (t.length - 1) with c | c
    · exact Int.le_of_lt (rows_mono r1 i _ c (by omega))
    · rw [show t.length - 1 = i by omega]; exact Int.le_refl _
  have e : valS t (t[i]?.getD R.d).lo = ⟨(t[i]?.getD R.d).hi, (t[i]?.getD R.d).hi⟩ := by
    rcases Nat.lt_or_ge (i + 1) t.length with c | c
    · rw [valS_seg r1 (k := i) c (Int.le_refl _) (Int.le_of_lt (rows_mono r1 i (i + 1) (by omega) c)), valAt_left]
    · have hm := rows_mono r1 (i - 1) i (by omega) hi
      rw [valS_seg r1 (k := i - 1) (by omega) (by omega) (by rw [show i - 1 + 1 = i by omega]; exact Int.le_refl _)]
      rw [show i - 1 + 1 = i by omega, valAt_right _ _ hm]
  unfold valueS
  rw [if_neg (by rw [h.ok]; decide), if_neg (by rw [show valueIn t (t[i]?.getD R.d).lo = true from (btw1 _ _ _).2 ⟨hf, hl⟩]; decide), e]

theorem RowsAt.wher (y0 y1 : Int) (h0 : -32768 ≤ y0) (h1 : y0 ≤ y1) (h2 : y1 ≤ 32767) : whereS t ⟨y0, y1⟩ = (whF t ⟨y0, y1⟩ (t.length - 1), 0) := by
  unfold whereS
  rw [if_neg (by rw [h.ok, okR_of y0 y1 (by omega) h1 (by omega)]; decide), show clampY ⟨y0, y1⟩ = ⟨y0, y1⟩ by unfold clampY; simp only [R.mk.injEq]; omega]

end

theorem norm_ok {xs : List R} : ∀ {b : Int}, normL b xs → ∀ r ∈ xs, b ≤ r.lo ∧ r.lo ≤ r.hi := by
  induction xs with
  | nil => intro b _ r hr; exact absurd hr (by simp)
  | cons x xs ih =>
    intro b hn r hr
    obtain ⟨n1, n2, n3⟩ := hn
    rcases List.mem_cons.1 hr with rfl | hr
    · exact ⟨n1, n2⟩
    · have := ih n3 r hr; omega
theorem norm_apart {xs : List R} : ∀ {b : Int}, normL b xs → apart xs xs.length := by
  induction xs with
  | nil => intro b _ i hi; exact absurd hi (by simp)
  | cons x xs ih =>
    intro b hn i hi h0
    obtain ⟨n1, n2, n3⟩ := hn
    rcases Nat.lt_or_ge 1 i with c | c
    · have := ih n3 (i - 1) (by simp at hi; omega) (by omega)
      rw [show i = i - 1 - 1 + 1 + 1 by omega]
      rw [show i - 1 = i - 1 - 1 + 1 by omega] at this
      simpa using this
    · obtain rfl : i = 1 := by omega
      simp only [List.length_cons] at hi
      rcases xs with _ | ⟨y, ys⟩
      · simp at hi
      · have := n3.1
        simp
        omega
theorem norm_set {xs : List R} {b : Int} (hb : -1000000000000000 ≤ b) (hn : normL b xs) (hl : xs.length ≤ 200) (hh : ∀ r ∈ xs, r.hi ≤ 1000000000000000) : setS xs = 0 := by
  unfold setS
  have ha : xs.all okR = true := by
    rw [List.all_eq_true]
    intro r hr
    have := norm_ok hn r hr
    exact (okR_iff r).2 ⟨by omega, this.2, hh r hr⟩
  rw [if_neg (by omega), if_neg (by rw [ha]; decide), if_pos (norm_apart hn)]

section
variable {t : List R} {a b : Int} (h : RowsAt t a b)
include h
theorem RowsAt.ends' (y : R) : ∀ r ∈ whF t y (t.length - 1), firstX t ≤ r.lo ∧ r.lo ≤ r.hi ∧ r.hi ≤ lastX t := by
  obtain ⟨w1, w2⟩ := whole_mem t y h.ok
  intro r hr
  have := norm_ok w1 r hr
  have h2 := (w2 r.hi).1 ⟨r, hr, by omega, by omega⟩
  exact ⟨this.1, this.2, h2.2.1⟩
theorem RowsAt.check (y : R) : setS (whF t y (t.length - 1)) = 0 := by
  have he := h.ends
  have hl := wh_len t y (t.length - 1)
  have := h.l12
  exact norm_set (by omega) (whole_mem t y h.ok).1 (by omega) fun r hr => by have := h.ends' y r hr; omega
theorem RowsAt.mem (y : R) (z : Int) (h1 : firstX t ≤ z) (h2 : z ≤ lastX t) : mem (whF t y (t.length - 1)) z ↔ inY y (valS t z) := by
  rw [(whole_mem t y h.ok).2]
  exact ⟨fun h => h.2.2, fun h => ⟨h1, h2, h⟩⟩
end

/-- the longer table is made in steps -/
def moreStep (a v : Int) (st : List R × Bool) (r : R) : List R × Bool := if a < r.lo ∧ st.2 = false then (st.1 ++ [⟨a, v⟩, r], true) else (st.1 ++ [r], st.2)
def moreF (a v : Int) (l : List R) : List R × Bool := l.foldl (moreStep a v) ([], false)
theorem moreF_snoc (a v : Int) (l : List R) (k : Nat) (hk : k < l.length) : moreF a v (l.take (k + 1)) = moreStep a v (moreF a v (l.take k)) (l[k]?.getD R.d) := by
  unfold moreF
  rw [List.take_succ_eq_append_getElem hk, List.foldl_append]
  simp [List.getElem?_eq_getElem hk]

theorem moreF_low (a v : Int) (t : List R) (k : Nat) (hk : k ≤ t.length) (hlo : ∀ i, i < k → (t[i]?.getD R.d).lo < a) : moreF a v (t.take k) = (t.take k, false) := by
  induction k with
  | zero => simp [moreF]
  | succ k ih =>
    rw [moreF_snoc a v t k (by omega), ih (by omega) (fun i hi => hlo i (by omega))]
    unfold moreStep
    have := hlo k (by omega)
    rw [if_neg (by omega)]
    simp only [Prod.mk.injEq, and_true]
    rw [List.take_succ_eq_append_getElem (by omega), List.getElem?_eq_getElem (by omega)]
    rfl
theorem moreF_high (a v : Int) (t : List R) (k j : Nat) (hk : k + 1 < t.length) (hj : j ≤ t.length - (k + 2)) (hlo : ∀ i, i ≤ k → (t[i]?.getD R.d).lo < a) (hhi : a < (t[k + 1]?.getD R.d).lo) :
    moreF a v (t.take (k + 2 + j)) = (t.take (k + 1) ++ ⟨a, v⟩ :: (t.drop (k + 1)).take (j + 1), true) := by
  induction j with
  | zero =>
    rw [Nat.add_zero, moreF_snoc a v t (k + 1) hk, moreF_low a v t (k + 1) (by omega) (fun i hi => hlo i (by omega))]
    unfold moreStep
    rw [if_pos ⟨hhi, rfl⟩]
    simp only [Prod.mk.injEq, and_true]
    have e : List.take (0 + 1) (List.drop (k + 1) t) = [t[k + 1]] := by rw [List.drop_eq_getElem_cons hk]; rfl
    rw [List.getElem?_eq_getElem hk, e]
    simp
  | succ j ih =>
    rw [← Nat.add_assoc, moreF_snoc a v t (k + 2 + j) (by omega), ih (by omega)]
    unfold moreStep
    rw [if_neg (by simp)]
    simp only [Prod.mk.injEq, and_true]
    rw [List.append_assoc, List.cons_append]
    congr 2
    rw [List.take_succ_eq_append_getElem (i := j + 1) (by simp; omega), List.getElem?_eq_getElem (by omega)]
    simp
    congr 1
    omega
theorem more_is (a v : Int) (t : List R) (k : Nat) (hk : k + 1 < t.length) (hlo : ∀ i, i ≤ k → (t[i]?.getD R.d).lo < a) (hhi : a < (t[k + 1]?.getD R.d).lo) : (moreF a v t).1 = insR t k ⟨a, v⟩ := by
  have := moreF_high a v t k (t.length - (k + 2)) hk (Nat.le_refl _) hlo hhi
  rw [show k + 2 + (t.length - (k + 2)) = t.length by omega, List.take_length] at this
  rw [this]
  unfold insR
  have e : List.take (t.length - (k + 2) + 1) (List.drop (k + 1) t) = List.drop (k + 1) t := List.take_of_length_le (by rw [List.length_drop]; omega)
  simp only [e]

theorem RowsAt.more {t : List R} {a b : Int} (h : RowsAt t a b) (he : (valS t a).lo = (valS t a).hi) (ha : a ≠ firstX t) (hb : a ≠ lastX t) (hno : ∀ i, i < t.length → (t[i]?.getD R.d).lo ≠ a)
    (y0 y1 : Int) (h0 : -32768 ≤ y0) (h1 : y0 ≤ y1) (h2 : y1 ≤ 32767) :
    valueS (moreF a (valS t a).lo t).1 b = (valS t b, 0) ∧ whereS (moreF a (valS t a).lo t).1 ⟨y0, y1⟩ = (whF t ⟨y0, y1⟩ (t.length - 1), 0) ∧ (moreF a (valS t a).lo t).1.length = t.length + 1 := by
  obtain ⟨r1, r2, r3⟩ := h.rows
  have hl := h.l12
  have hh1 := h.h1; have hh2 := h.h2; have hh3 := h.h3
  obtain ⟨k, hk1, hk2, hk3⟩ := seg_exists r2 h.h1 (show a ≤ lastX t by omega)
  have n1 := hno k (by omega)
  have n2 := hno (k + 1) hk1
  have hhi : a < (t[k + 1]?.getD R.d).lo := by omega
  have hlo : ∀ i, i ≤ k → (t[i]?.getD R.d).lo < a := by
    intro i hi
    rcases Nat.lt_or_ge i k with c | c
    · have := rows_mono r1 i k c (by omega); omega
    · obtain rfl : i = k := by omega
      omega
  rw [more_is a _ t k hk1 hlo hhi]
  have hs := h.small a hh1 (by omega)
  have hv : valS t a = ⟨(valS t a).lo, (valS t a).lo⟩ := by
    generalize valS t a = u at *
    obtain ⟨u0, u1⟩ := u
    simp only at he
    rw [he]
  obtain ⟨i1, i2, i3, i4⟩ := ins_where t k a (valS t a).lo ⟨y0, y1⟩ h.ok (by omega) hk1 (hlo k (Nat.le_refl _)) hhi hs.1 hv
  have hvb := ins_val t k a (valS t a).lo b r1 hk1 (hlo k (Nat.le_refl _)) hhi hs.1 hv r2 (by omega) (by omega)
  refine ⟨?_, ?_, insR_len t k _ hk1⟩
  · unfold valueS
    rw [if_neg (by rw [i1]; decide), if_neg (by rw [show valueIn (insR t k ⟨a, (valS t a).lo⟩) b = true from (btw1 _ _ _).2 ⟨by rw [i2]; omega, by rw [i3]; omega⟩]; decide), hvb]
  · unfold whereS
    rw [if_neg (by rw [i1, okR_of y0 y1 (by omega) h1 (by omega)]; decide), show clampY ⟨y0, y1⟩ = ⟨y0, y1⟩ by unfold clampY; simp only [R.mk.injEq]; omega, i4]

end Go.Proofs.Ytfohdafijfjefaa

end
