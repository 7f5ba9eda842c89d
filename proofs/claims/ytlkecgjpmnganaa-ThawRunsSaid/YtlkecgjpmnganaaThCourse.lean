/- Contracts: Kinds, Course. -/
import Derived.Test.YtlkecgjpmnganaaThSets
import Derived.Test.YtlkecgjpmnganaaThWithin
set_option linter.unusedSimpArgs false
set_option linter.unusedVariables false
namespace Go.Proofs.Ytlkecgjpmnganaa
open Go.RowKit Go.Shelf




/-- behind Kinds -/
def errK (r : TR) (lo hi : Int) : Int := if okRules r && okT ⟨lo, hi⟩ then 0 else 2
def KindsAllPost (w : World) (er : Int) (xs : List Int) (e : Ending) (w' : World) : Prop := ∃ A c, e = .returned (.tuple #[.slice A xs.length c, .int .i64 er]) ∧ xs.length ≤ c ∧ c ≤ maxLen ∧ (A = none → xs.length = 0 ∧ c = 0) ∧ Els (Value.int .i64) 0 w' w.heap.size A xs ∧ Below w.heap.size w w'

set_option maxHeartbeats 1000000 in
theorem kindsAll_any (r : TR) (lo hi : Int) (w : World) :
    Calls Try.prog 20 #[rV r, .agg #[.int .i64 lo, .int .i64 hi]] w (KindsAllPost w (errK r lo hi) (if errK r lo hi = 0 then kindsT r lo hi else [])) := by
  have h1 := fun (W : World) => checkRules_any r W
  have h2 := fun (W : World) => isTemp_any lo hi W
  have h3 := fun (W : World) => kinds_any r lo hi W
  have hrv : rV r = .agg #[.int .i64 r.frost, .int .i64 r.thaw, .int .i64 r.gain, .int .i64 r.full, .int .i64 r.ice, .int .i64 r.most, .int .i64 r.melt, .int .i64 r.rlow, .int .i64 r.rhigh, .int .i64 r.pull] := rfl
  rw [hrv] at h1 h3 ⊢
  unfold errK
  generalize okRules r = b1 at h1 ⊢
  generalize okT ⟨lo, hi⟩ = b2 at h2 ⊢
  generalize kindsT r lo hi = ks at h3 ⊢
  cases b1 with
  | false =>
    go_enter Try.func20, Try.ntmps20
    go_wp2_with fail
    refine (h1 _).mono ?_
    rintro e w1 ⟨rfl, hb1⟩
    go_wp2
    refine bodyPost_ret (v := .tuple #[.slice none 0 0, .int .i64 2]) (by simp [results, Try.results20, go_sem]) rfl ⟨none, 0, rfl, Nat.le_refl _, Nat.zero_le _, fun _ => ⟨rfl, rfl⟩, fun h => absurd h (by simp), (by (try show Below _ _ _); repeat (first | (with_reducible refine Below.setCell ?_ (by first | omega | (simp <;> omega)) _) | (with_reducible refine Below.alloc ?_ (by first | omega | (simp <;> omega)) _) | (with_reducible refine Below.drew ?_) | (with_reducible exact Below.refl _ _) | (with_reducible refine below_call ?_ (by assumption) (by first | omega | (simp <;> omega))) | (with_reducible refine below_call ?_ (Drew.below (by assumption) _) (by first | omega | (simp <;> omega)))))⟩
  | true =>
    cases b2 with
    | false =>
      go_enter Try.func20, Try.ntmps20
      go_wp2_with fail
      refine (h1 _).mono ?_
      rintro e w1 ⟨rfl, hb1⟩
      have hz1 := hb1.size
      simp only [World.size_alloc] at hz1
      have hc1 := fun o => hb1.cell (p := ⟨w.heap.size + 1, o, none⟩) (by show w.heap.size + 1 < _; simp)
      go_wp2_with fail
      refine (h2 _).mono ?_
      rintro e w2 ⟨rfl, hb2⟩
      have hz2 := hb2.size
      go_wp2
      refine bodyPost_ret (v := .tuple #[.slice none 0 0, .int .i64 2]) (by simp [results, Try.results20, go_sem]) rfl ⟨none, 0, rfl, Nat.le_refl _, Nat.zero_le _, fun _ => ⟨rfl, rfl⟩, fun h => absurd h (by simp), (by (try show Below _ _ _); repeat (first | (with_reducible refine Below.setCell ?_ (by first | omega | (simp <;> omega)) _) | (with_reducible refine Below.alloc ?_ (by first | omega | (simp <;> omega)) _) | (with_reducible refine Below.drew ?_) | (with_reducible exact Below.refl _ _) | (with_reducible refine below_call ?_ (by assumption) (by first | omega | (simp <;> omega))) | (with_reducible refine below_call ?_ (Drew.below (by assumption) _) (by first | omega | (simp <;> omega)))))⟩
    | true =>
      simp only [Bool.and_self, if_true]
      go_enter Try.func20, Try.ntmps20
      go_wp2_with fail
      refine (h1 _).mono ?_
      rintro e w1 ⟨rfl, hb1⟩
      have hz1 := hb1.size
      simp only [World.size_alloc] at hz1
      have hl1 : w.heap.size < w1.heap.size := by omega
      have hk1 : w.heap.size + 1 < w1.heap.size := by omega
      have hc1 := fun o => hb1.cell (p := ⟨w.heap.size + 1, o, none⟩) (by show w.heap.size + 1 < _; simp)
      have hd1 := fun o => hb1.cell (p := ⟨w.heap.size, o, none⟩) (by show w.heap.size < _; simp; omega)
      go_wp2_with fail
      refine (h2 _).mono ?_
      rintro e w2 ⟨rfl, hb2⟩
      have hz2 := hb2.size
      have hc2 := fun o => hb2.cell (p := ⟨w.heap.size + 1, o, none⟩) (by show w.heap.size + 1 < _; omega)
      have hd2 := fun o => hb2.cell (p := ⟨w.heap.size, o, none⟩) (by show w.heap.size < _; omega)
      go_wp2_with fail
      refine (h3 _).mono ?_
      rintro e w3 ⟨A, cc, rfl, k1, k2, k3, k4, hb3⟩
      have hz3 := hb3.size
      go_wp2
      refine bodyPost_ret (v := .tuple #[.slice A ks.length cc, .int .i64 0]) (by simp [results, Try.results20, go_sem]) rfl ⟨A, cc, rfl, k1, k2, k3, k4.mono (by omega), (by (try show Below _ _ _); repeat (first | (with_reducible refine Below.setCell ?_ (by first | omega | (simp <;> omega)) _) | (with_reducible refine Below.alloc ?_ (by first | omega | (simp <;> omega)) _) | (with_reducible refine Below.drew ?_) | (with_reducible exact Below.refl _ _) | (with_reducible refine below_call ?_ (by assumption) (by first | omega | (simp <;> omega))) | (with_reducible refine below_call ?_ (Drew.below (by assumption) _) (by first | omega | (simp <;> omega)))))⟩

theorem Own1.grown {α : Type} {enc : α → Value} {t : TypeId} {W W' : World} {base nb : Nat} {v : Value} {xs : List α} (h : Own1 enc t W base v xs) (hg : W.grownBy W' (some nb)) (hnb : nb < base) : Own1 enc t W' base v xs :=
  World.ownsRow.kept h hg (by
    cases hq : v.ownBlock with
    | none => exact Or.inl rfl
    | some g => exact Or.inr (fun e => by cases e; have := (World.ownsRow.lt h _ hq).1; omega))

theorem Own1.reads_slice {α : Type} {enc : α → Value} {t : TypeId} {W : World} {base : Nat} {A : Option Addr} {m c : Nat} {xs : List α} {d : α} (h : Own1 enc t W base (.slice A m c) xs) : Els enc d W base A xs := by
  obtain ⟨A', c', e, _, _, _, hE⟩ := h.reads d
  cases e
  exact hE

/-! ### Courses -/
def okK (k : Int) : Bool := decide (1 ≤ k) && decide (k ≤ 3)
def errC (r : TR) (c i : Int) (ks : List Int) : Int := if okRules r && okSt r c i then (if 1000 < ks.length then 5 else if ks.all okK then 0 else 2) else 2
/-- a course: in which hours sap runs, and the state behind it -/
def courseS (r : TR) (s : St) (ks : List Int) : List Bool × St := ks.foldl (fun x k => (x.1 ++ [(stepT r x.2 k).2], (stepT r x.2 k).1)) ([], s)
theorem courseS_snoc (r : TR) (s : St) (ks : List Int) (k : Int) : courseS r s (ks ++ [k]) = ((courseS r s ks).1 ++ [(stepT r (courseS r s ks).2 k).2], (stepT r (courseS r s ks).2 k).1) := by simp [courseS]
theorem courseS_len (r : TR) (s : St) (ks : List Int) : (courseS r s ks).1.length = ks.length := by
  have key : ∀ (ks : List Int) (x : List Bool × St), (ks.foldl (fun x k => (x.1 ++ [(stepT r x.2 k).2], (stepT r x.2 k).1)) x).1.length = x.1.length + ks.length := by
    intro ks
    induction ks with
    | nil => intro x; simp
    | cons k l ih => intro x; simp only [List.foldl_cons]; rw [ih]; simp; omega
  have := key ks ([], s)
  simpa [courseS] using this
theorem courseS_in {r : TR} (hr : TROk r) {s : St} (hs : stIn r s) (ks : List Int) : stIn r (courseS r s ks).2 := by
  have key : ∀ (ks : List Int) (x : List Bool × St), stIn r x.2 → stIn r (ks.foldl (fun x k => (x.1 ++ [(stepT r x.2 k).2], (stepT r x.2 k).1)) x).2 := by
    intro ks
    induction ks with
    | nil => intro x h; exact h
    | cons k l ih => intro x h; exact ih _ (stepT_in hr h)
  exact key ks ([], s) hs

theorem allK_eq (xs : List Int) : (xs.any fun a => !okK a) = !xs.all okK := by
  induction xs with
  | nil => rfl
  | cons x l ih => simp only [List.any_cons, List.all_cons, Bool.not_and] at ih ⊢; rw [ih]

set_option maxHeartbeats 400000 in
theorem course1_pred (w : World) : PredB Try.prog 62 #[] (Value.int .i64) (fun a => !okK a) w := by
  intro k W _
  show Calls _ _ #[.int .i64 k] _ _
  by_cases h1 : k < 1
  · have e : (!okK k) = true := by simp [okK]; omega
    simp only [e]
    go_enter Try.func62, Try.ntmps62
    go_wp2
    go_ret
    exact ⟨rfl, (by (try show Below _ _ _); repeat (first | (with_reducible refine Below.setCell ?_ (by first | omega | (simp <;> omega)) _) | (with_reducible refine Below.alloc ?_ (by first | omega | (simp <;> omega)) _) | (with_reducible refine Below.drew ?_) | (with_reducible exact Below.refl _ _) | (with_reducible refine below_call ?_ (by assumption) (by first | omega | (simp <;> omega))) | (with_reducible refine below_call ?_ (Drew.below (by assumption) _) (by first | omega | (simp <;> omega)))))⟩
  · by_cases h2 : 3 < k
    · have e : (!okK k) = true := by simp [okK]; omega
      simp only [e]
      go_enter Try.func62, Try.ntmps62
      go_wp2
      go_ret
      exact ⟨rfl, (by (try show Below _ _ _); repeat (first | (with_reducible refine Below.setCell ?_ (by first | omega | (simp <;> omega)) _) | (with_reducible refine Below.alloc ?_ (by first | omega | (simp <;> omega)) _) | (with_reducible refine Below.drew ?_) | (with_reducible exact Below.refl _ _) | (with_reducible refine below_call ?_ (by assumption) (by first | omega | (simp <;> omega))) | (with_reducible refine below_call ?_ (Drew.below (by assumption) _) (by first | omega | (simp <;> omega)))))⟩
    · have e : (!okK k) = false := by simp [okK]; omega
      simp only [e]
      go_enter Try.func62, Try.ntmps62
      go_wp2
      go_ret
      exact ⟨rfl, (by (try show Below _ _ _); repeat (first | (with_reducible refine Below.setCell ?_ (by first | omega | (simp <;> omega)) _) | (with_reducible refine Below.alloc ?_ (by first | omega | (simp <;> omega)) _) | (with_reducible refine Below.drew ?_) | (with_reducible exact Below.refl _ _) | (with_reducible refine below_call ?_ (by assumption) (by first | omega | (simp <;> omega))) | (with_reducible refine below_call ?_ (Drew.below (by assumption) _) (by first | omega | (simp <;> omega)))))⟩

/-- behind Course -/
def CoursePost (w : World) (er : Int) (x : List Bool × St) (e : Ending) (w' : World) : Prop := ∃ A c, e = .returned (.tuple #[.slice A x.1.length c, .agg #[.int .i64 x.2.1, .int .i64 x.2.2], .int .i64 er]) ∧ x.1.length ≤ c ∧ c ≤ maxLen ∧ (A = none → x.1.length = 0 ∧ c = 0) ∧ Els Value.bool false w' w.heap.size A x.1 ∧ Below w.heap.size w w'

theorem infoBool : (Try.prog.info? 4).map (fun i => (i.zero, i.size, i.bytes)) = some (some (.bool false), 1, 1) := by kernel_rfl


set_option maxRecDepth 100000 in
set_option maxHeartbeats 2000000 in
theorem course_any (r : TR) (c i : Int) (lo : Nat) (A : Option Addr) (n cc : Nat) (ks : List Int) (w : World) (hx : Ints w lo A ks) (hn : Aside (ks.length = n)) (hl : n ≤ maxLen) :
    Calls Try.prog 26 #[rV r, .agg #[.int .i64 c, .int .i64 i], .slice A n cc] w (CoursePost w (errC r c i ks) (if errC r c i ks = 0 then courseS r (c, i) ks else ([], (0, 0)))) := by
  have h1 := fun (W : World) => checkStart_any r c i W
  have eg : Enters Try.prog 62 := enters_of Try.func62 (by kernel_rfl) rfl
  have h2 := fun (W : World) (hb : Below w.heap.size w W) => containsFunc_HourKind 62 #[] (fun a => !okK a) lo A n cc ks W eg (hx.below hb (Nat.le_refl _)) hn hl (course1_pred W)
  rw [allK_eq] at h2
  have hrv : rV r = .agg #[.int .i64 r.frost, .int .i64 r.thaw, .int .i64 r.gain, .int .i64 r.full, .int .i64 r.ice, .int .i64 r.most, .int .i64 r.melt, .int .i64 r.rlow, .int .i64 r.rhigh, .int .i64 r.pull] := rfl
  have he : errC r c i ks = if okRules r && okSt r c i then (if 1000 < n then 5 else if ks.all okK then 0 else 2) else 2 := by unfold errC; rw [hn.out]
  generalize errC r c i ks = er at he ⊢
  have hbb : (okRules r && okSt r c i) = true → TROk r ∧ stIn r (c, i) := fun h => by simp only [Bool.and_eq_true] at h; exact ⟨(okRules_iff r).1 h.1, (okSt_iff r c i).1 h.2⟩
  have hall : ks.all okK = true → ∀ k ∈ ks, 1 ≤ k ∧ k ≤ 3 := fun h k hk => by have := List.all_eq_true.1 h k hk; simpa [okK] using this
  generalize (okRules r && okSt r c i) = b1 at he h1 hbb
  generalize ks.all okK = b2 at he h2 hall
  rw [hrv] at h1 ⊢
  have HX : Aside (Ints w lo A ks) := hx
  clear hx eg hrv
  cases b1 with
  | false =>
    simp only [Bool.false_eq_true, if_false] at he
    subst he
    go_enter Try.func26, Try.ntmps26
    go_wp2_with fail
    refine (h1 _).mono ?_
    rintro e w1 ⟨rfl, hb1⟩
    have hz1 := hb1.size
    simp only [World.size_alloc] at hz1
    have u0 := (hb1.cell (p := ⟨w.heap.size + 1 + 1, 0, none⟩) (by show w.heap.size + 1 + 1 < _; simp)).trans (show _ = some (.int .i64 0) by simp [go_sem])
    have u1 := (hb1.cell (p := ⟨w.heap.size + 1 + 1, 1, none⟩) (by show w.heap.size + 1 + 1 < _; simp)).trans (show _ = some (.int .i64 0) by simp [go_sem])
    have v0 := (hb1.frozen (p := ⟨w.heap.size + 1 + 1, 0, none⟩) (by show w.heap.size + 1 + 1 < _; simp)).trans (show _ = false by simp [go_sem])
    have v1 := (hb1.frozen (p := ⟨w.heap.size + 1 + 1, 1, none⟩) (by show w.heap.size + 1 + 1 < _; simp)).trans (show _ = false by simp [go_sem])
    have hl3 : w.heap.size + 1 + 1 < w1.heap.size := by omega
    have hB1 : Below w.heap.size w w1 := (by (try show Below _ _ _); repeat (first | (with_reducible refine Below.setCell ?_ (by first | omega | (simp <;> omega)) _) | (with_reducible refine Below.alloc ?_ (by first | omega | (simp <;> omega)) _) | (with_reducible refine Below.drew ?_) | (with_reducible exact Below.refl _ _) | (with_reducible refine below_call ?_ (by assumption) (by first | omega | (simp <;> omega))) | (with_reducible refine below_call ?_ (Drew.below (by assumption) _) (by first | omega | (simp <;> omega)))))
    go_wp2
    refine bodyPost_ret (v := .tuple #[.slice none 0 0, .agg #[.int .i64 0, .int .i64 0], .int .i64 2]) (by simp [results, Try.results26, go_sem, u0, u1]) rfl ⟨none, 0, rfl, Nat.le_refl _, Nat.zero_le _, fun _ => ⟨rfl, rfl⟩, fun h => absurd h (by simp), (by (try show Below _ _ _); repeat (first | (with_reducible refine Below.setCell ?_ (by first | omega | (simp <;> omega)) _) | (with_reducible refine Below.alloc ?_ (by first | omega | (simp <;> omega)) _) | (with_reducible refine Below.drew ?_) | (with_reducible exact Below.refl _ _) | (with_reducible exact hB1) | (with_reducible refine below_call ?_ (by assumption) (by first | omega | (simp <;> omega))) | (with_reducible refine below_call ?_ (Drew.below (by assumption) _) (by first | omega | (simp <;> omega)))))⟩
  | true =>
    obtain ⟨hr, hst⟩ := hbb rfl
    simp only [if_true] at he h1
    by_cases hlen : 1000 < n
    · rw [if_pos hlen] at he
      subst he
      have hlz : (1000 : Int) < (n : Int) := by omega
      go_enter Try.func26, Try.ntmps26
      go_wp2_with fail
      refine (h1 _).mono ?_
      rintro e w1 ⟨rfl, hb1⟩
      have hz1 := hb1.size
      simp only [World.size_alloc] at hz1
      have u0 := (hb1.cell (p := ⟨w.heap.size + 1 + 1, 0, none⟩) (by show w.heap.size + 1 + 1 < _; simp)).trans (show _ = some (.int .i64 0) by simp [go_sem])
      have u1 := (hb1.cell (p := ⟨w.heap.size + 1 + 1, 1, none⟩) (by show w.heap.size + 1 + 1 < _; simp)).trans (show _ = some (.int .i64 0) by simp [go_sem])
      have v0 := (hb1.frozen (p := ⟨w.heap.size + 1 + 1, 0, none⟩) (by show w.heap.size + 1 + 1 < _; simp)).trans (show _ = false by simp [go_sem])
      have v1 := (hb1.frozen (p := ⟨w.heap.size + 1 + 1, 1, none⟩) (by show w.heap.size + 1 + 1 < _; simp)).trans (show _ = false by simp [go_sem])
      have hl3 : w.heap.size + 1 + 1 < w1.heap.size := by omega
      have hB1 : Below w.heap.size w w1 := (by (try show Below _ _ _); repeat (first | (with_reducible refine Below.setCell ?_ (by first | omega | (simp <;> omega)) _) | (with_reducible refine Below.alloc ?_ (by first | omega | (simp <;> omega)) _) | (with_reducible refine Below.drew ?_) | (with_reducible exact Below.refl _ _) | (with_reducible refine below_call ?_ (by assumption) (by first | omega | (simp <;> omega))) | (with_reducible refine below_call ?_ (Drew.below (by assumption) _) (by first | omega | (simp <;> omega)))))
      go_wp2
      refine bodyPost_ret (v := .tuple #[.slice none 0 0, .agg #[.int .i64 0, .int .i64 0], .int .i64 5]) (by simp [results, Try.results26, go_sem, u0, u1]) rfl ⟨none, 0, rfl, Nat.le_refl _, Nat.zero_le _, fun _ => ⟨rfl, rfl⟩, fun h => absurd h (by simp), (by (try show Below _ _ _); repeat (first | (with_reducible refine Below.setCell ?_ (by first | omega | (simp <;> omega)) _) | (with_reducible refine Below.alloc ?_ (by first | omega | (simp <;> omega)) _) | (with_reducible refine Below.drew ?_) | (with_reducible exact Below.refl _ _) | (with_reducible exact hB1) | (with_reducible refine below_call ?_ (by assumption) (by first | omega | (simp <;> omega))) | (with_reducible refine below_call ?_ (Drew.below (by assumption) _) (by first | omega | (simp <;> omega)))))⟩
    · rw [if_neg hlen] at he
      have hlz : ¬ (1000 : Int) < (n : Int) := by omega
      cases b2 with
      | false =>
        simp only [Bool.false_eq_true, if_false] at he
        subst he
        go_enter Try.func26, Try.ntmps26
        go_wp2_with fail
        refine (h1 _).mono ?_
        rintro e w1 ⟨rfl, hb1⟩
        have hz1 := hb1.size
        simp only [World.size_alloc] at hz1
        have u0 := (hb1.cell (p := ⟨w.heap.size + 1 + 1, 0, none⟩) (by show w.heap.size + 1 + 1 < _; simp)).trans (show _ = some (.int .i64 0) by simp [go_sem])
        have u1 := (hb1.cell (p := ⟨w.heap.size + 1 + 1, 1, none⟩) (by show w.heap.size + 1 + 1 < _; simp)).trans (show _ = some (.int .i64 0) by simp [go_sem])
        have v0 := (hb1.frozen (p := ⟨w.heap.size + 1 + 1, 0, none⟩) (by show w.heap.size + 1 + 1 < _; simp)).trans (show _ = false by simp [go_sem])
        have v1 := (hb1.frozen (p := ⟨w.heap.size + 1 + 1, 1, none⟩) (by show w.heap.size + 1 + 1 < _; simp)).trans (show _ = false by simp [go_sem])
        have hl3 : w.heap.size + 1 + 1 < w1.heap.size := by omega
        have hB1 : Below w.heap.size w w1 := (by (try show Below _ _ _); repeat (first | (with_reducible refine Below.setCell ?_ (by first | omega | (simp <;> omega)) _) | (with_reducible refine Below.alloc ?_ (by first | omega | (simp <;> omega)) _) | (with_reducible refine Below.drew ?_) | (with_reducible exact Below.refl _ _) | (with_reducible refine below_call ?_ (by assumption) (by first | omega | (simp <;> omega))) | (with_reducible refine below_call ?_ (Drew.below (by assumption) _) (by first | omega | (simp <;> omega)))))
        go_wp2_with fail
        refine Calls.mono (h2 _ hB1) ?_
        rintro e w2 ⟨rfl, hb2⟩
        have hz2 := hb2.size
        replace u0 := (hb2.cell (p := ⟨w.heap.size + 1 + 1, 0, none⟩) hl3).trans u0
        replace u1 := (hb2.cell (p := ⟨w.heap.size + 1 + 1, 1, none⟩) hl3).trans u1
        replace v0 := (hb2.frozen (p := ⟨w.heap.size + 1 + 1, 0, none⟩) hl3).trans v0
        replace v1 := (hb2.frozen (p := ⟨w.heap.size + 1 + 1, 1, none⟩) hl3).trans v1
        replace hB1 := hB1.trans (hb2.mono (show w.heap.size ≤ w1.heap.size by omega))
        go_wp2
        refine bodyPost_ret (v := .tuple #[.slice none 0 0, .agg #[.int .i64 0, .int .i64 0], .int .i64 2]) (by simp [results, Try.results26, go_sem, u0, u1]) rfl ⟨none, 0, rfl, Nat.le_refl _, Nat.zero_le _, fun _ => ⟨rfl, rfl⟩, fun h => absurd h (by simp), (by (try show Below _ _ _); repeat (first | (with_reducible refine Below.setCell ?_ (by first | omega | (simp <;> omega)) _) | (with_reducible refine Below.alloc ?_ (by first | omega | (simp <;> omega)) _) | (with_reducible refine Below.drew ?_) | (with_reducible exact Below.refl _ _) | (with_reducible exact hB1) | (with_reducible refine below_call ?_ (by assumption) (by first | omega | (simp <;> omega))) | (with_reducible refine below_call ?_ (Drew.below (by assumption) _) (by first | omega | (simp <;> omega)))))⟩
      | true =>
        simp only [if_true] at he
        subst he
        obtain ⟨c, i, hc, hi, e⟩ := in_nat hr hst
        obtain ⟨rfl, rfl⟩ := Prod.mk.inj e
        simp only [if_true]
        have hkr := hall rfl
        have hstp := fun c i k h1 h2 W => step_any r c i k h1 h2 hr W
        rw [show rV r = .agg #[.int .i64 r.frost, .int .i64 r.thaw, .int .i64 r.gain, .int .i64 r.full, .int .i64 r.ice, .int .i64 r.most, .int .i64 r.melt, .int .i64 r.rlow, .int .i64 r.rhigh, .int .i64 r.pull] from rfl] at hstp
        have HK := Lib.hid hkr
        have HS := Lib.hid hst
        obtain ⟨i5, hi5, hz5, hs5, hb5⟩ := info_parts infoBool
        clear hall hbb hkr hst e
        go_enter Try.func26, Try.ntmps26
        go_wp2_with fail
        refine (h1 _).mono ?_
        rintro e w1 ⟨rfl, hb1⟩
        have hz1 := hb1.size
        simp only [World.size_alloc] at hz1
        have u0 := (hb1.cell (p := ⟨w.heap.size + 1 + 1, 0, none⟩) (by show w.heap.size + 1 + 1 < _; simp)).trans (show _ = some (.int .i64 0) by simp [go_sem])
        have u1 := (hb1.cell (p := ⟨w.heap.size + 1 + 1, 1, none⟩) (by show w.heap.size + 1 + 1 < _; simp)).trans (show _ = some (.int .i64 0) by simp [go_sem])
        have v0 := (hb1.frozen (p := ⟨w.heap.size + 1 + 1, 0, none⟩) (by show w.heap.size + 1 + 1 < _; simp)).trans (show _ = false by simp [go_sem])
        have v1 := (hb1.frozen (p := ⟨w.heap.size + 1 + 1, 1, none⟩) (by show w.heap.size + 1 + 1 < _; simp)).trans (show _ = false by simp [go_sem])
        have hl3 : w.heap.size + 1 + 1 < w1.heap.size := by omega
        have hB1 : Below w.heap.size w w1 := (by (try show Below _ _ _); repeat (first | (with_reducible refine Below.setCell ?_ (by first | omega | (simp <;> omega)) _) | (with_reducible refine Below.alloc ?_ (by first | omega | (simp <;> omega)) _) | (with_reducible refine Below.drew ?_) | (with_reducible exact Below.refl _ _) | (with_reducible refine below_call ?_ (by assumption) (by first | omega | (simp <;> omega))) | (with_reducible refine below_call ?_ (Drew.below (by assumption) _) (by first | omega | (simp <;> omega)))))
        have q0 := (hb1.cell (p := ⟨w.heap.size, 0, none⟩) (by show w.heap.size < _; simp; omega)).trans (show _ = some (.int .i64 r.frost) by simp [go_sem])
        have q1 := (hb1.cell (p := ⟨w.heap.size, 1, none⟩) (by show w.heap.size < _; simp; omega)).trans (show _ = some (.int .i64 r.thaw) by simp [go_sem])
        have q2 := (hb1.cell (p := ⟨w.heap.size, 2, none⟩) (by show w.heap.size < _; simp; omega)).trans (show _ = some (.int .i64 r.gain) by simp [go_sem])
        have q3 := (hb1.cell (p := ⟨w.heap.size, 3, none⟩) (by show w.heap.size < _; simp; omega)).trans (show _ = some (.int .i64 r.full) by simp [go_sem])
        have q4 := (hb1.cell (p := ⟨w.heap.size, 4, none⟩) (by show w.heap.size < _; simp; omega)).trans (show _ = some (.int .i64 r.ice) by simp [go_sem])
        have q5 := (hb1.cell (p := ⟨w.heap.size, 5, none⟩) (by show w.heap.size < _; simp; omega)).trans (show _ = some (.int .i64 r.most) by simp [go_sem])
        have q6 := (hb1.cell (p := ⟨w.heap.size, 6, none⟩) (by show w.heap.size < _; simp; omega)).trans (show _ = some (.int .i64 r.melt) by simp [go_sem])
        have q7 := (hb1.cell (p := ⟨w.heap.size, 7, none⟩) (by show w.heap.size < _; simp; omega)).trans (show _ = some (.int .i64 r.rlow) by simp [go_sem])
        have q8 := (hb1.cell (p := ⟨w.heap.size, 8, none⟩) (by show w.heap.size < _; simp; omega)).trans (show _ = some (.int .i64 r.rhigh) by simp [go_sem])
        have q9 := (hb1.cell (p := ⟨w.heap.size, 9, none⟩) (by show w.heap.size < _; simp; omega)).trans (show _ = some (.int .i64 r.pull) by simp [go_sem])
        have s0 := (hb1.cell (p := ⟨w.heap.size + 1, 0, none⟩) (by show w.heap.size + 1 < _; simp)).trans (show _ = some (.int .i64 (c : Int)) by simp [go_sem])
        have s1 := (hb1.cell (p := ⟨w.heap.size + 1, 1, none⟩) (by show w.heap.size + 1 < _; simp)).trans (show _ = some (.int .i64 (i : Int)) by simp [go_sem])
        have t0 := (hb1.frozen (p := ⟨w.heap.size + 1, 0, none⟩) (by show w.heap.size + 1 < _; simp)).trans (show _ = false by simp [go_sem])
        have t1 := (hb1.frozen (p := ⟨w.heap.size + 1, 1, none⟩) (by show w.heap.size + 1 < _; simp)).trans (show _ = false by simp [go_sem])
        have hl1 : w.heap.size < w1.heap.size := by omega
        have hl2 : w.heap.size + 1 < w1.heap.size := by omega
        go_wp2_with fail
        refine Calls.mono (h2 _ hB1) ?_
        rintro e w2 ⟨rfl, hb2⟩
        have hz2 := hb2.size
        replace u0 := (hb2.cell (p := ⟨w.heap.size + 1 + 1, 0, none⟩) hl3).trans u0
        replace u1 := (hb2.cell (p := ⟨w.heap.size + 1 + 1, 1, none⟩) hl3).trans u1
        replace v0 := (hb2.frozen (p := ⟨w.heap.size + 1 + 1, 0, none⟩) hl3).trans v0
        replace v1 := (hb2.frozen (p := ⟨w.heap.size + 1 + 1, 1, none⟩) hl3).trans v1
        replace hB1 := hB1.trans (hb2.mono (show w.heap.size ≤ w1.heap.size by omega))
        replace q0 := (hb2.cell hl1).trans q0
        replace q1 := (hb2.cell hl1).trans q1
        replace q2 := (hb2.cell hl1).trans q2
        replace q3 := (hb2.cell hl1).trans q3
        replace q4 := (hb2.cell hl1).trans q4
        replace q5 := (hb2.cell hl1).trans q5
        replace q6 := (hb2.cell hl1).trans q6
        replace q7 := (hb2.cell hl1).trans q7
        replace q8 := (hb2.cell hl1).trans q8
        replace q9 := (hb2.cell hl1).trans q9
        replace s0 := (hb2.cell hl2).trans s0
        replace s1 := (hb2.cell hl2).trans s1
        replace t0 := (hb2.frozen (p := ⟨w.heap.size + 1, 0, none⟩) hl2).trans t0
        replace t1 := (hb2.frozen (p := ⟨w.heap.size + 1, 1, none⟩) hl2).trans t1
        have HQ := Lib.hid (And.intro q0 (And.intro q1 (And.intro q2 (And.intro q3 (And.intro q4 (And.intro q5 (And.intro q6 (And.intro q7 (And.intro q8 (And.intro q9 (And.intro u0 (And.intro u1 (And.intro v0 v1)))))))))))))
        clear q0 q1 q2 q3 q4 q5 q6 q7 q8 q9 u0 u1 v0 v1
        have hB2 : Aside (Below w.heap.size w w2) := hB1
        go_wp2_with fail
        go_loopg [6, 29] (n) (fun gg v ii wr => ∃ (k : Nat) (x y : Nat) (rs : List Bool), k ≤ n ∧ n - k ≤ gg ∧ ii = .int .i64 k ∧ Aside (courseS r ((c : Int), (i : Int)) (ks.take k) = (rs, ((x : Int), (y : Int)))) ∧ Aside (Own1 Value.bool 4 wr w2.heap.size v rs) ∧ Aside (w2.grownBy wr (some (w.heap.size + 1))) ∧
          wr.cell? ⟨w.heap.size + 1, 0, none⟩ = some (.int .i64 (x : Int)) ∧ wr.cell? ⟨w.heap.size + 1, 1, none⟩ = some (.int .i64 (y : Int)) ∧ wr.frozen? ⟨w.heap.size + 1, 0, none⟩ = false ∧ wr.frozen? ⟨w.heap.size + 1, 1, none⟩ = false)
        case atStart =>
          exact ⟨0, c, i, [], Nat.zero_le _, Nat.le_refl _, rfl, rfl, Own1.nil _ _ _ _, grown_refl _ _, s0, s1, t0, t1⟩
        case round =>
          obtain ⟨k, x, y, rs, hk, hg, rfl, hC, hO, hG, s0, s1, t0, t1⟩ := hrel
          obtain ⟨Av, cv, hv, hvl, hvm, hvn, hvE⟩ := hO.out.reads false
          subst hv
          obtain ⟨q0, q1, q2, q3, q4, q5, q6, q7, q8, q9, u0, u1, v0, v1⟩ := HQ.out
          replace q0 := gcell hG.out q0 (by omega)
          replace q1 := gcell hG.out q1 (by omega)
          replace q2 := gcell hG.out q2 (by omega)
          replace q3 := gcell hG.out q3 (by omega)
          replace q4 := gcell hG.out q4 (by omega)
          replace q5 := gcell hG.out q5 (by omega)
          replace q6 := gcell hG.out q6 (by omega)
          replace q7 := gcell hG.out q7 (by omega)
          replace q8 := gcell hG.out q8 (by omega)
          replace q9 := gcell hG.out q9 (by omega)
          replace u0 := gcell hG.out u0 (by omega)
          replace u1 := gcell hG.out u1 (by omega)
          have hgs := hG.out.size
          have hst2 : stIn r ((x : Int), (y : Int)) := by have := courseS_in hr HS.out (ks.take k); rwa [hC.out] at this
          have hv0 := (hG.out.frozen_far ⟨w.heap.size + 1 + 1, 0, none⟩ (by show w.heap.size + 1 + 1 < _; omega) (by simp)).trans v0
          have hv1 := (hG.out.frozen_far ⟨w.heap.size + 1 + 1, 1, none⟩ (by show w.heap.size + 1 + 1 < _; omega) (by simp)).trans v1
          by_cases hlt : k < n
          · obtain ⟨bb, oo, hA, _, hlb, hcs⟩ := HX.out (by have := hn.out; omega)
            subst hA
            have e0 := gcell hG.out ((hB2.out.cell (p := ⟨bb, oo + k, none⟩) hlb).trans (hcs k (by have := hn.out; omega))) (by omega)
            have hk2 : k < ks.length := by have := hn.out; omega
            have hsn : courseS r ((c : Int), (i : Int)) (ks.take (k + 1)) = (rs ++ [(stepT r ((x : Int), (y : Int)) (ks[k]?.getD 0)).2], (stepT r ((x : Int), (y : Int)) (ks[k]?.getD 0)).1) := by
              rw [List.take_succ_eq_append_getElem hk2, courseS_snoc, hC.out, List.getElem?_eq_getElem hk2]; rfl
            have hkr : 1 ≤ ks[k]?.getD 0 ∧ ks[k]?.getD 0 ≤ 3 := HK.out _ (by rw [List.getElem?_eq_getElem hk2]; exact List.getElem_mem _)
            generalize ks[k]?.getD 0 = kk at e0 hsn hkr
            have hstep := hstp x y kk hkr hst2
            have hsi := stepT_in hr hst2 (k := kk)
            rcases hsr : stepT r ((x : Int), (y : Int)) kk with ⟨⟨x2, y2⟩, ran⟩
            rw [hsr] at hstep hsi hsn
            obtain ⟨z1, z2, z3, z4⟩ := hsi
            simp only at z1 z2 z3 z4 hsn
            obtain ⟨x2, rfl⟩ := Int.eq_ofNat_of_zero_le z1
            obtain ⟨y2, rfl⟩ := Int.eq_ofNat_of_zero_le z3
            simp only [sV] at hstep
            have Hsn := Lib.hid hsn
            clear hsn hcs hsr
            have hltz : (k : Int) < (n : Int) := by omega
            have hi0 : (0 : Int) ≤ (k : Int) := Int.natCast_nonneg _
            have hlbr : bb < wr.heap.size := by have := hB2.out.size; omega
            have hl1 : w.heap.size < wr.heap.size := by omega
            have hl2 : w.heap.size + 1 < wr.heap.size := by omega
            have hrl : rs.length = k := by have := courseS_len r ((c : Int), (i : Int)) (ks.take k); rw [hC.out] at this; simp at this; omega
            have Hrl := Lib.hid hrl
            clear hrl
            go_wp2_with fail
            refine Calls.mono (hstep _) ?_
            rintro e w3 ⟨rfl, hb3⟩
            have hz3 := hb3.size
            replace s0 := (hb3.cell hl2).trans s0
            replace s1 := (hb3.cell hl2).trans s1
            replace t0 := (hb3.frozen (p := ⟨w.heap.size + 1, 0, none⟩) hl2).trans t0
            replace t1 := (hb3.frozen (p := ⟨w.heap.size + 1, 1, none⟩) hl2).trans t1
            have hg4 : w2.grownBy ((w3.setCell ⟨w.heap.size + 1, 0, none⟩ (.int .i64 (x2 : Int))).setCell ⟨w.heap.size + 1, 1, none⟩ (.int .i64 (y2 : Int))) (some (w.heap.size + 1)) := grown_tr (grown_tr (grown_below hG.out (hb3.mono hgs)) (grown_set _ _ _ _) (fun r e => Or.inr (by cases e; rfl))) (grown_set _ _ _ _) (fun r e => Or.inr (by cases e; rfl))
            have hO4 : Own1 Value.bool 4 ((w3.setCell ⟨w.heap.size + 1, 0, none⟩ (.int .i64 (x2 : Int))).setCell ⟨w.heap.size + 1, 1, none⟩ (.int .i64 (y2 : Int))) w2.heap.size (.slice Av rs.length cv) rs := ((hO.out.below hb3 (Nat.le_refl _)).grown (grown_set _ _ _ _) (by omega)).grown (grown_set _ _ _ _) (by omega)
            have a0 : ((w3.setCell ⟨w.heap.size + 1, 0, none⟩ (.int .i64 (x2 : Int))).setCell ⟨w.heap.size + 1, 1, none⟩ (.int .i64 (y2 : Int))).cell? ⟨w.heap.size + 1, 0, none⟩ = some (.int .i64 (x2 : Int)) := by simp [go_sem, s0]
            have a1 : ((w3.setCell ⟨w.heap.size + 1, 0, none⟩ (.int .i64 (x2 : Int))).setCell ⟨w.heap.size + 1, 1, none⟩ (.int .i64 (y2 : Int))).cell? ⟨w.heap.size + 1, 1, none⟩ = some (.int .i64 (y2 : Int)) := by simp [go_sem, s1]
            have b0 : ((w3.setCell ⟨w.heap.size + 1, 0, none⟩ (.int .i64 (x2 : Int))).setCell ⟨w.heap.size + 1, 1, none⟩ (.int .i64 (y2 : Int))).frozen? ⟨w.heap.size + 1, 0, none⟩ = false := by simp [go_sem, t0]
            have b1 : ((w3.setCell ⟨w.heap.size + 1, 0, none⟩ (.int .i64 (x2 : Int))).setCell ⟨w.heap.size + 1, 1, none⟩ (.int .i64 (y2 : Int))).frozen? ⟨w.heap.size + 1, 1, none⟩ = false := by simp [go_sem, t1]
            have hz4 : ((w3.setCell ⟨w.heap.size + 1, 0, none⟩ (.int .i64 (x2 : Int))).setCell ⟨w.heap.size + 1, 1, none⟩ (.int .i64 (y2 : Int))).heap.size = w3.heap.size := by simp
            go_upto_region 13 with (fail)
            generalize (w3.setCell ⟨w.heap.size + 1, 0, none⟩ (.int .i64 (x2 : Int))).setCell ⟨w.heap.size + 1, 1, none⟩ (.int .i64 (y2 : Int)) = w4 at hg4 hO4 a0 a1 b0 b1 hz4 ⊢
            have hO5 := hO4.alloc (.cells #[.bool ran] 4)
            unfold Own1 at hO5
            have hne := hO4.lt
            have hgs4 := hg4.size
            have HN := Lib.hid (show (w4.alloc (.cells #[.bool ran] 4)).cell? ⟨w3.heap.size, 0, none⟩ = some (.bool ran) by rw [← hz4]; simp [go_sem])
            clear hvE
            go_wp2_with (at_builtin; (refine wpList_append_lies _ rfl _ _ _ (by rfl) w2.heap.size 4 i5 _ 1 1 Try.underlying47 hi5 hz5 hs5 hb5 rfl (by omega) (.slice Av rs.length cv) rs.length (rs.map Value.bool) (by rfl) hO5 ⟨w3.heap.size, 0, none⟩ 1 1 [.bool ran] (by rfl) (by rfl) (news_one HN.out) (by simp [Value.oneCell']) (by omega) (by have := Hrl.out; simp only [maxLen]; omega) (by have := Hrl.out; omega) (by simp; omega) (w4.heap.size + 1) (by simp) ?_); intro g5 c5 w5 o5 hgrow hat5 hlt5)
            have hg5 : w2.grownBy w5 (some (w.heap.size + 1)) := grown_tr (grown_tr hg4 (grown_alloc w4 _) (fun r e => by cases e)) hgrow (fun r e => Or.inl (hne r e).1)
            have hfar : ∀ o, w5.cell? ⟨w.heap.size + 1, o, none⟩ = w4.cell? ⟨w.heap.size + 1, o, none⟩ := fun o => by
              rw [hgrow.cell_far _ (by simp; omega) (fun e => by have := (hne _ e.symm).1; simp at this; omega)]
              exact World.cell?_alloc_lt _ _ _ (by show w.heap.size + 1 < _; omega)
            have hffar : ∀ o, w5.frozen? ⟨w.heap.size + 1, o, none⟩ = w4.frozen? ⟨w.heap.size + 1, o, none⟩ := fun o => by
              rw [hgrow.frozen_far _ (by simp; omega) (fun e => by have := (hne _ e.symm).1; simp at this; omega)]
              exact ((Below.refl w4.heap.size w4).alloc (Nat.le_refl _) _).frozen (p := ⟨w.heap.size + 1, o, none⟩) (by show w.heap.size + 1 < _; omega)
            go_wp2
            go_roundg (n - (k + 1))
            case measure => omega
            case rel =>
              exact ⟨k + 1, x2, y2, rs ++ [ran], by omega, by omega, by go_num, Hsn.out, Own1.snoc o5 rfl, hg5, (hfar 0).trans a0, (hfar 1).trans a1, (hffar 0).trans b0, (hffar 1).trans b1⟩
          · have hltz : ¬ (k : Int) < (n : Int) := by omega
            obtain rfl : k = n := by omega
            have htk : ks.take k = ks := List.take_of_length_le (by have := hn.out; omega)
            have hC2 := hC.out
            rw [htk] at hC2
            go_wp2_with fail
            have hAll : Aside (∀ W, wr.grownBy W (some (w.heap.size + 1 + 1)) → (wr.grownBy W (some (w.heap.size + 1 + 1)) ∧ W.cell? ⟨w.heap.size + 1, 0, none⟩ = some (.int .i64 (x : Int)) ∧ W.cell? ⟨w.heap.size + 1, 1, none⟩ = some (.int .i64 (y : Int)))) := fun W h => ⟨h, gcell h s0 (by omega), gcell h s1 (by omega)⟩
            refine wp_region_held_drew (S := fun W => wr.grownBy W (some (w.heap.size + 1 + 1)) ∧ W.cell? ⟨w.heap.size + 1, 0, none⟩ = some (.int .i64 (x : Int)) ∧ W.cell? ⟨w.heap.size + 1, 1, none⟩ = some (.int .i64 (y : Int))) (by kernel_rfl) (hAll.out _ (grown_drew _ _)) (fun hS0 => ?_)
            (try go_simp)
            refine wpAnyH_take (i := 0) (v := ?_) rfl (by kernel_rfl) (by kernel_rfl) (by kernel_rfl) (fun _ _ _ h => h) (Or.inl ⟨by rfl, ?_⟩) hS0 ?_
            rotate_left
            · (intro W hSw; (try dsimp only at hSw); go_split_ands; go_simp; (try with_reducible rfl))
            (try go_simp)
            (try go_simp)
            refine wpAnyH_take (i := 1) (v := ?_) rfl (by kernel_rfl) (by kernel_rfl) (by kernel_rfl) (fun _ _ _ h => h) (Or.inl ⟨by rfl, ?_⟩) hS0 ?_
            rotate_left
            · (intro W hSw; (try dsimp only at hSw); go_split_ands; go_simp; (try with_reducible rfl))
            (try go_simp)
            (try go_simp)
            refine wpAnyH_take (i := 2) (v := ?_) rfl (by kernel_rfl) (by kernel_rfl) (by kernel_rfl) (fun _ _ _ h => h) (Or.inl ⟨by rfl, ?_⟩) hS0 ?_
            rotate_left
            · (intro W hSw; (try dsimp only at hSw); go_split_ands; go_simp; (try with_reducible rfl))
            (try go_simp)
            refine wpAnyH_ready (rs := [3]) (by kernel_rfl) (by simp) ?_
            refine (AllReadyH.cons rfl (fun K hK => ?_) AllReadyH.nil)
            go_simp
            have g8 : wr.grownBy ((wr.drew.setCell ⟨w.heap.size + 1 + 1, 0, none⟩ (.int .i64 (x : Int))).setCell ⟨w.heap.size + 1 + 1, 1, none⟩ (.int .i64 (y : Int))) (some (w.heap.size + 1 + 1)) := grown_tr (grown_tr (grown_drew wr _) (grown_set _ _ _ _) (fun r e => Or.inr (by cases e; rfl))) (grown_set _ _ _ _) (fun r e => Or.inr (by cases e; rfl))
            refine hK.out _ _ (hAll.out _ g8) (fun hS5 => ?_)
            clear hK K
            (try go_simp)
            (try go_simp)
            refine wpAnyH_take (i := 4) (v := ?_) rfl (by kernel_rfl) (by kernel_rfl) (by kernel_rfl) (fun _ _ _ h => h) (Or.inl ⟨by rfl, ?_⟩) hS5 ?_
            rotate_left
            · (intro W hSw; (try dsimp only at hSw); go_split_ands; go_simp; (try with_reducible rfl))
            (try go_simp)
            refine wpAnyH_done (by kernel_rfl) ?_ _
            go_wp2
            have hz := g8.size
            have hB9 : Below w.heap.size w2 _ := (grown_bel hG.out (show w.heap.size ≤ w.heap.size + 1 by omega) (by have := hB2.out.size; omega)).trans (grown_bel g8 (show w.heap.size ≤ w.heap.size + 1 + 1 by omega) (by omega))
            refine bodyPost_ret (v := .tuple #[.slice Av rs.length cv, .agg #[.int .i64 (x : Int), .int .i64 (y : Int)], .int .i64 0]) (by simp [results, Try.results26, go_sem, u0, u1]) rfl (by
              rw [hC2]
              exact ⟨Av, cv, rfl, hvl, hvm, hvn, (Own1.reads_slice ((hO.out.grown (show wr.grownBy wr.drew (some (w.heap.size + 1 + 1)) from grown_drew _ _) (by omega)).grown (show wr.drew.grownBy _ (some (w.heap.size + 1 + 1)) from grown_tr (grown_set _ _ _ _) (grown_set _ _ _ _) (fun r e => Or.inr (by cases e; rfl))) (by omega))).mono (by have := hB2.out.size; omega), hB2.out.trans hB9⟩)


end Go.Proofs.Ytlkecgjpmnganaa
