/- Slices of one's own whose elements are k cells each; lists copied. -/
import Derived.Test.YtlkecgjpmnganaaOwn1
import Derived.Test.YtlkecgjpmnganaaRange
set_option linter.unusedSimpArgs false
set_option linter.unusedVariables false
namespace Go.Proofs.Ytlkecgjpmnganaa
open Go.RowKit Go.Shelf

/-- how an element lies in cells -/
structure Lay (α : Type) where
  k : Nat
  pos : 0 < k
  cs : α → List Value
  d : α
  len : ∀ x, (cs x).length = k
  one : ∀ x, ∀ u ∈ cs x, u.oneCell' = true

/-- the slice's address holds these elements -/
def Lay.at {α : Type} (L : Lay α) (w : World) (lo : Nat) (A : Option Addr) (xs : List α) : Prop :=
  0 < xs.length → ∃ b o, A = some ⟨b, o, none⟩ ∧ lo ≤ b ∧ b < w.heap.size ∧ ∀ j i, j < xs.length → i < L.k → w.cell? ⟨b, o + j * L.k + i, none⟩ = (L.cs (xs[j]?.getD L.d))[i]?

theorem Lay.at_below {α : Type} {L : Lay α} {w w' : World} {B lo : Nat} {A : Option Addr} {xs : List α} (h : L.at w lo A xs) (hb : Below B w w') (hB : w.heap.size ≤ B) : L.at w' lo A xs := by
  intro hn
  obtain ⟨b, o, e, h0, hl, hc⟩ := h hn
  exact ⟨b, o, e, h0, Nat.lt_of_lt_of_le hl hb.size, fun j i hj hi => (hb.cell (p := ⟨b, o + j * L.k + i, none⟩) (Nat.lt_of_lt_of_le hl hB)).trans (hc j i hj hi)⟩
theorem Lay.at_mono {α : Type} {L : Lay α} {w : World} {lo lo' : Nat} {A : Option Addr} {xs : List α} (h : L.at w lo A xs) (hB : lo' ≤ lo) : L.at w lo' A xs := by
  intro hn
  obtain ⟨b, o, e, h0, r⟩ := h hn
  exact ⟨b, o, e, Nat.le_trans hB h0, r⟩

theorem Lay.flat_len {α : Type} (L : Lay α) (xs : List α) : (xs.flatMap L.cs).length = xs.length * L.k := by
  induction xs with
  | nil => simp
  | cons x l ih => rw [List.flatMap_cons, List.length_append, ih, L.len, List.length_cons, Nat.succ_mul]; omega
theorem Lay.flat_at {α : Type} (L : Lay α) (xs : List α) (j i : Nat) (hj : j < xs.length) (hi : i < L.k) : (xs.flatMap L.cs)[j * L.k + i]? = (L.cs (xs[j]?.getD L.d))[i]? := by
  induction xs generalizing j with
  | nil => simp at hj
  | cons x l ih =>
    rw [List.flatMap_cons]
    cases j with
    | zero =>
      rw [Nat.zero_mul, Nat.zero_add, List.getElem?_append_left (by rw [L.len]; exact hi)]
      rfl
    | succ j =>
      rw [List.getElem?_append_right (by rw [L.len, Nat.succ_mul]; omega)]
      have e : (j + 1) * L.k + i - (L.cs x).length = j * L.k + i := by rw [L.len, Nat.succ_mul]; omega
      rw [e, ih j (by simpa using hj)]
      rfl
theorem Lay.flat_one {α : Type} (L : Lay α) (xs : List α) : ∀ u ∈ xs.flatMap L.cs, u.oneCell' = true := by
  intro u hu
  obtain ⟨t, _, hu⟩ := List.mem_flatMap.1 hu
  exact L.one t u hu

/-- a slice value of one's own that reads as these elements -/
def OwnK {α : Type} (L : Lay α) (t : TypeId) (W : World) (base : Nat) (v : Value) (xs : List α) : Prop := W.ownsRow base t L.k v xs.length (xs.flatMap L.cs)
theorem OwnK.nil {α : Type} (L : Lay α) (t : TypeId) (W : World) (base : Nat) : OwnK L t W base (.slice none 0 0) [] := World.ownsRow_nil W base _ _
theorem OwnK.below {α : Type} {L : Lay α} {t : TypeId} {W W' : World} {base B : Nat} {v : Value} {xs : List α} (h : OwnK L t W base v xs) (hb : Below B W W') (hB : W.heap.size ≤ B) : OwnK L t W' base v xs :=
  World.ownsRow.kept (row := none) h ⟨hb.os, hb.tape, hb.output, hb.size, fun k hk _ => hb.block k (Nat.lt_of_lt_of_le hk hB)⟩ (by cases v.ownBlock <;> simp)
theorem OwnK.alloc {α : Type} {L : Lay α} {t : TypeId} {W : World} {base : Nat} {v : Value} {xs : List α} (h : OwnK L t W base v xs) (o : Obj) : OwnK L t (W.alloc o) base v xs :=
  h.below ((Below.refl W.heap.size W).alloc (Nat.le_refl _) o) (Nat.le_refl _)
theorem OwnK.grown {α : Type} {L : Lay α} {t : TypeId} {W W' : World} {base nb : Nat} {v : Value} {xs : List α} (h : OwnK L t W base v xs) (hg : W.grownBy W' (some nb)) (hnb : nb < base) : OwnK L t W' base v xs :=
  World.ownsRow.kept h hg (by
    cases hq : v.ownBlock with
    | none => exact Or.inl rfl
    | some g => exact Or.inr (fun e => by cases e; have := (World.ownsRow.lt h _ hq).1; omega))
theorem OwnK.reads {α : Type} {L : Lay α} {t : TypeId} {W : World} {base : Nat} {v : Value} {xs : List α} (h : OwnK L t W base v xs) : ∃ A c, v = .slice A xs.length c ∧ xs.length ≤ c ∧ c ≤ maxLen ∧ (A = none → xs.length = 0 ∧ c = 0) ∧ L.at W base A xs := by
  rcases h.2 with ⟨h0, hn⟩ | ⟨g, cap, cur, hv, hb, hh, h1, h2, h3, h4⟩
  · exact ⟨none, 0, by rw [hn]; exact h0, by omega, Nat.zero_le _, fun _ => ⟨hn, rfl⟩, fun hp => absurd hp (by omega)⟩
  · refine ⟨_, cap, hv, h1, h2, (fun e => by cases e), fun hp => ⟨g, 0, rfl, hb, ?_, fun j i hj hi => ?_⟩⟩
    · rcases Nat.lt_or_ge g W.heap.size with hlt | hge
      · exact hlt
      · rw [Array.getElem?_eq_none hge] at hh; cases hh
    · have h' := h
      unfold OwnK at h'
      rw [hv] at h'
      have hlt : j * L.k + i < xs.length * L.k := by
        have : (j + 1) * L.k ≤ xs.length * L.k := Nat.mul_le_mul_right _ hj
        rw [Nat.succ_mul] at this
        omega
      have := h'.cellAt (j * L.k + i) hlt
      rw [L.flat_at xs j i hj hi] at this
      rw [show 0 + j * L.k + i = j * L.k + i by omega]
      rw [this]
theorem OwnK.reads_slice {α : Type} {L : Lay α} {t : TypeId} {W : World} {base m c : Nat} {A : Option Addr} {xs : List α} (h : OwnK L t W base (.slice A m c) xs) : L.at W base A xs := by
  obtain ⟨A', c', e, _, _, _, hE⟩ := h.reads
  cases e
  exact hE
theorem OwnK.snoc {α : Type} {L : Lay α} {t : TypeId} {W : World} {base : Nat} {v : Value} {xs : List α} {x : α} {n : Nat} (h : W.ownsRow base t L.k v (n + 1) (xs.flatMap L.cs ++ L.cs x)) (hn : xs.length = n) : OwnK L t W base v (xs ++ [x]) := by
  unfold OwnK
  rw [List.length_append, hn, List.flatMap_append, List.flatMap_cons, List.flatMap_nil, List.append_nil]
  exact h
theorem Lay.news {α : Type} {L : Lay α} {W : World} {b o : Nat} {xs : List α} (h : ∀ j i, j < xs.length → i < L.k → W.cell? ⟨b, o + j * L.k + i, none⟩ = (L.cs (xs[j]?.getD L.d))[i]?) : ∀ j u, (xs.flatMap L.cs)[j]? = some u → W.cell? ((⟨b, o, none⟩ : Addr).add j) = some u := by
  intro j u hu
  have hlt : j < xs.length * L.k := by
    have := (List.getElem?_eq_some_iff.1 hu).1
    rwa [L.flat_len] at this
  have hk := L.pos
  have hmod : j % L.k < L.k := Nat.mod_lt _ hk
  have hdiv : j / L.k < xs.length := Nat.div_lt_of_lt_mul (by rw [Nat.mul_comm]; exact hlt)
  have hdm : j / L.k * L.k + j % L.k = j := by rw [Nat.mul_comm]; exact Nat.div_add_mod j L.k
  have h1 := h (j / L.k) (j % L.k) hdiv hmod
  have h2 := L.flat_at xs (j / L.k) (j % L.k) hdiv hmod
  rw [hdm, hu] at h2
  rw [← h2] at h1
  rw [← h1]
  have e : o + j / L.k * L.k + j % L.k = o + j := by omega
  rw [e]
  unfold Addr.add
  by_cases h0 : j = 0 <;> simp [h0]
theorem ownsRow_emptyK (w : World) (e : TypeId) (k : Nat) : World.ownsRow (w.alloc (.cells #[] e)) w.heap.size e k (.slice (some ⟨w.heap.size, 0, none⟩) 0 0) 0 [] :=
  World.ownsRow_lit (base := w.heap.size) (e := e) (size := k) w #[] 0 (Nat.le_refl _) (by unfold maxLen; omega) (by simp)

/-- ranges -/
def rngL : Lay R := ⟨2, by omega, fun x => [.int .i64 x.lo, .int .i64 x.hi], R.d, fun _ => rfl, fun x u hu => by simp at hu; rcases hu with rfl | rfl <;> rfl⟩
theorem rngL_at {w : World} {lo : Nat} {A : Option Addr} {xs : List R} : rngL.at w lo A xs ↔ Ranges w lo A xs := by
  constructor
  · intro h hn
    obtain ⟨b, o, e, h0, hl, hc⟩ := h hn
    refine ⟨b, o, e, h0, hl, fun j i hj hi => ?_⟩
    have := hc j i hj hi
    have h2 : i = 0 ∨ i = 1 := by omega
    rcases h2 with rfl | rfl <;> exact this
  · intro h hn
    obtain ⟨b, o, e, h0, hl, hc⟩ := h hn
    refine ⟨b, o, e, h0, hl, fun j i hj hi => ?_⟩
    have := hc j i hj hi
    have h2 : i = 0 ∨ i = 1 := by
      have : i < 2 := hi
      omega
    rcases h2 with rfl | rfl <;> exact this
/-- a group of taps -/
structure Gp where
  taps : Int
  lo : Int
  hi : Int
def gpL : Lay Gp := ⟨3, by omega, fun x => [.int .i64 x.taps, .int .i64 x.lo, .int .i64 x.hi], ⟨0, 0, 0⟩, fun _ => rfl, fun x u hu => by simp at hu; rcases hu with rfl | rfl | rfl <;> rfl⟩
def gpV (g : Gp) : Value := .agg #[.int .i64 g.taps, .int .i64 g.lo, .int .i64 g.hi]
/-- whole numbers -/
def intL : Lay Int := ⟨1, by omega, fun x => [.int .i64 x], 0, fun _ => rfl, fun x u hu => by simp at hu; subst hu; rfl⟩
theorem intL_at {w : World} {lo : Nat} {A : Option Addr} {xs : List Int} : intL.at w lo A xs ↔ Ints w lo A xs := by
  constructor
  · intro h hn
    obtain ⟨b, o, e, h0, hl, hc⟩ := h hn
    refine ⟨b, o, e, h0, hl, fun j hj => ?_⟩
    have := hc j 0 hj (by show 0 < 1; omega)
    rw [show o + j * intL.k + 0 = o + j by show o + j * 1 + 0 = o + j; omega] at this
    exact this
  · intro h hn
    obtain ⟨b, o, e, h0, hl, hc⟩ := h hn
    refine ⟨b, o, e, h0, hl, fun j i hj hi => ?_⟩
    have h2 : i = 0 := by
      have : i < 1 := hi
      omega
    subst h2
    rw [show o + j * intL.k + 0 = o + j by show o + j * 1 + 0 = o + j; omega]
    exact hc j hj

/-- behind a copy -/
def CopyK {α : Type} (L : Lay α) (w : World) (xs : List α) (n : Nat) (e : Ending) (w' : World) : Prop := ∃ A c, e = .returned (.slice A n c) ∧ n ≤ c ∧ c ≤ maxLen ∧ L.at w' w.heap.size A xs ∧ Below w.heap.size w w'


end Go.Proofs.Ytlkecgjpmnganaa
