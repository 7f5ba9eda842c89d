/- The plain law of TopMixedKegs: no program in sight. -/
import Derived.Test.YtgpojnghdhophaaTMKdef
set_option linter.unusedSimpArgs false
set_option linter.unusedVariables false
namespace Go.Proofs.Ytgpojnghdhophaa

theorem ratio_floor (a b c : Int) (ha : 0 ≤ a) (hb : 0 ≤ b) (hc : 1 ≤ c) (hlt : a * b < 2000000000000000) :
    (ratioS a b c).1 * c ≤ a * b ∧ a * b < ((ratioS a b c).1 + 1) * c ∧ a * b ≤ (ratioS a b c).2 * c ∧ ((ratioS a b c).2 - 1) * c < a * b ∧ 0 ≤ (ratioS a b c).1 ∧ (ratioS a b c).1 ≤ (ratioS a b c).2 := by
  obtain ⟨a, rfl⟩ := Int.eq_ofNat_of_zero_le ha
  obtain ⟨b, rfl⟩ := Int.eq_ofNat_of_zero_le hb
  obtain ⟨c, rfl⟩ := Int.eq_ofNat_of_zero_le (show 0 ≤ c by omega)
  have hp : (a : Int) * (b : Int) = ((a * b : Nat) : Int) := by push_cast; rfl
  rw [hp] at hlt ⊢
  have e : ratioS (a : Int) (b : Int) (c : Int) = ratioN false (a * b) c := by
    unfold ratioS
    have h1 : decide ((a : Int) < 0) = false := by simp
    have h2 : decide ((b : Int) < 0) = false := by simp
    rw [h1, h2]
    rfl
  rw [e]
  generalize a * b = P at hlt
  have hc' : 0 < c := by omega
  have hq : P / c < 2000000000000000 := Nat.lt_of_le_of_lt (Nat.div_le_self _ _) (by omega)
  have hdm := Nat.div_add_mod P c
  have hml := Nat.mod_lt P hc'
  unfold ratioN
  rw [if_pos hq]
  simp only [Bool.false_eq_true, if_false]
  have hz : ((P : Nat) : Int) = (c : Int) * ((P / c : Nat) : Int) + ((P % c : Nat) : Int) := by exact_mod_cast hdm.symm
  generalize P / c = q at hz hq
  generalize P % c = r at hz hml
  have hqc : (q : Int) * (c : Int) = (c : Int) * (q : Int) := Int.mul_comm _ _
  by_cases hr : 0 < r
  · rw [if_pos hr]
    simp only [Int.add_mul, Int.sub_mul, Int.one_mul]
    rw [hz, hqc]
    omega
  · rw [if_neg hr]
    simp only [Int.add_mul, Int.sub_mul, Int.one_mul]
    rw [hz, hqc]
    omega

theorem brix_char (s : R) (h0 : 0 ≤ s.lo) (h1 : 0 ≤ s.hi) (h2 : s.lo ≤ 1000000000) (h3 : s.hi ≤ 1000000000) (hm : 1 ≤ s.lo + s.hi) :
    ∃ a b, brixS s = (⟨a, b⟩, 0) ∧ a * (s.lo + s.hi) ≤ s.hi * 10000 ∧ s.hi * 10000 < (a + 1) * (s.lo + s.hi) ∧ s.hi * 10000 ≤ b * (s.lo + s.hi) ∧ (b - 1) * (s.lo + s.hi) < s.hi * 10000 ∧ 0 ≤ a ∧ a ≤ b ∧ b ≤ 10001 := by
  obtain ⟨r1, r2, r3, r4, r5, r6⟩ := ratio_floor s.hi 10000 (s.lo + s.hi) h1 (by omega) hm (by omega)
  have hb : (ratioS s.hi 10000 (s.lo + s.hi)).2 ≤ 10001 := by
    have : ((ratioS s.hi 10000 (s.lo + s.hi)).2 - 1) * (s.lo + s.hi) < 10000 * (s.lo + s.hi) := by
      have := Int.mul_comm s.hi 10000
      omega
    have := Int.lt_of_mul_lt_mul_right this (by omega)
    omega
  refine ⟨_, _, ?_, r1, r2, r3, r4, r5, r6, hb⟩
  have hok : okS s = true := (okS_iff s).2 (by omega)
  unfold brixS
  rw [if_neg (by rw [hok]; decide), if_neg (by omega)]
  have hrat : (Q3.rat ⟨s.hi, 10000, s.lo + s.hi⟩) = ratioS s.hi 10000 (s.lo + s.hi) := by
    unfold Q3.rat
    simp only
    rw [if_neg (by omega)]
  unfold overS overF
  simp only [List.foldl_cons, List.foldl_nil]
  rw [hrat]
  generalize ratioS s.hi 10000 (s.lo + s.hi) = v at *
  obtain ⟨a, b⟩ := v
  simp only at *
  have e1 : min (2000000000000000 : Int) a = a := by omega
  have e2 : max (-2000000000000000 : Int) b = b := by omega
  rw [e1, e2]
  unfold madeS
  rw [if_pos ((okR_iff _).2 (by simp only; omega))]

theorem hull_le (l : List R) (x : R) : (l.foldl HullJ x).lo ≤ x.lo ∧ x.hi ≤ (l.foldl HullJ x).hi ∧ ∀ y ∈ l, (l.foldl HullJ x).lo ≤ y.lo ∧ y.hi ≤ (l.foldl HullJ x).hi := by
  induction l generalizing x with
  | nil => simp
  | cons z l ih =>
    obtain ⟨i1, i2, i3⟩ := ih (HullJ x z)
    simp only [List.foldl_cons]
    have e1 : (HullJ x z).lo = min x.lo z.lo := rfl
    have e2 : (HullJ x z).hi = max x.hi z.hi := rfl
    refine ⟨by omega, by omega, fun y hy => ?_⟩
    rcases List.mem_cons.1 hy with rfl | hy
    · omega
    · exact i3 y hy

theorem sumR_fold (l : List R) (s : R) : l.foldl (fun s x => (⟨s.lo + x.lo, s.hi + x.hi⟩ : R)) s = ⟨s.lo + (sumR l).lo, s.hi + (sumR l).hi⟩ := by
  induction l generalizing s with
  | nil => simp [sumR]
  | cons x l ih =>
    unfold sumR
    simp only [List.foldl_cons]
    rw [ih, ih ⟨0 + x.lo, 0 + x.hi⟩]
    simp only [R.mk.injEq]
    omega

theorem sumR_cons (x : R) (l : List R) : sumR (x :: l) = ⟨x.lo + (sumR l).lo, x.hi + (sumR l).hi⟩ := by
  have := sumR_fold l ⟨0 + x.lo, 0 + x.hi⟩
  unfold sumR
  simp only [List.foldl_cons]
  rw [this]
  simp [sumR]

theorem sum_low (q : Int) (l : List R) (h : ∀ x ∈ l, q * (x.lo + x.hi) ≤ x.hi * 10000) : q * ((sumR l).lo + (sumR l).hi) ≤ (sumR l).hi * 10000 := by
  induction l with
  | nil => simp [sumR]
  | cons x l ih =>
    rw [sumR_cons]
    have h1 := h x (by simp)
    have h2 := ih (fun y hy => h y (by simp [hy]))
    simp only
    have e : q * (x.lo + (sumR l).lo + (x.hi + (sumR l).hi)) = q * (x.lo + x.hi) + q * ((sumR l).lo + (sumR l).hi) := by rw [← Int.mul_add]; congr 1; omega
    rw [e, Int.add_mul]
    omega

theorem sum_high (q : Int) (l : List R) (h : ∀ x ∈ l, x.hi * 10000 ≤ q * (x.lo + x.hi)) : (sumR l).hi * 10000 ≤ q * ((sumR l).lo + (sumR l).hi) := by
  induction l with
  | nil => simp [sumR]
  | cons x l ih =>
    rw [sumR_cons]
    have h1 := h x (by simp)
    have h2 := ih (fun y hy => h y (by simp [hy]))
    simp only
    have e : q * (x.lo + (sumR l).lo + (x.hi + (sumR l).hi)) = q * (x.lo + x.hi) + q * ((sumR l).lo + (sumR l).hi) := by rw [← Int.mul_add]; congr 1; omega
    rw [e, Int.add_mul]
    omega

theorem kacc_sum (L : List T3) (s : K) (r : R) (h1 : s.wa = r.lo) (h2 : s.su = r.hi) :
    ((L.map T3.keg).foldl kstep s).wa = ((L.map T3.sap).foldl (fun s x => (⟨s.lo + x.lo, s.hi + x.hi⟩ : R)) r).lo ∧ ((L.map T3.keg).foldl kstep s).su = ((L.map T3.sap).foldl (fun s x => (⟨s.lo + x.lo, s.hi + x.hi⟩ : R)) r).hi := by
  induction L generalizing s r with
  | nil => exact ⟨h1, h2⟩
  | cons t L ih =>
    simp only [List.map_cons, List.foldl_cons]
    exact ih _ _ (by simp [kstep, T3.keg, T3.sap, h1]) (by simp [kstep, T3.keg, T3.sap, h2])

theorem sap_of (t : T3) (h : t.ok) : 0 ≤ t.sap.lo ∧ 0 ≤ t.sap.hi ∧ t.sap.lo ≤ 1000000000 ∧ t.sap.hi ≤ 1000000000 ∧ 1 ≤ t.sap.lo + t.sap.hi := by
  obtain ⟨⟨a, b⟩, ⟨c, d⟩, _⟩ := h
  simp only [T3.sap]
  omega

theorem keg_of (t : T3) (h : t.ok) : okK t.keg = true := by
  obtain ⟨⟨a, b⟩, ⟨c, d⟩, ⟨e, f⟩⟩ := h
  rw [okK_iff]
  simp only [T3.keg]
  omega

theorem dense_hull (L : List T3) (h1 : 1 ≤ L.length) (h12 : L.length ≤ 12) (hok : ∀ t ∈ L, t.ok) : ∃ hl hh, foldS HullJ (L.map fun t => brixV t.sap) = (⟨hl, hh⟩, 0) ∧ ∀ t ∈ L, hl ≤ (brixV t.sap).lo ∧ (brixV t.sap).hi ≤ hh := by
  cases L with
  | nil => simp at h1
  | cons x l =>
    have hc : checkS ((x :: l).map fun t => brixV t.sap) = 0 := by
      unfold checkS
      rw [if_neg (by simp only [List.length_map]; omega), if_pos]
      rw [List.all_eq_true]
      intro r hr
      obtain ⟨t, ht, rfl⟩ := List.mem_map.1 hr
      have hs := sap_of t (hok t ht)
      obtain ⟨a, b, e, _, _, _, _, h3, h4, h5⟩ := brix_char t.sap hs.1 hs.2.1 hs.2.2.1 hs.2.2.2.1 hs.2.2.2.2
      unfold brixV
      rw [e, okR_iff]
      simp only
      omega
    obtain ⟨g1, g2, g3⟩ := hull_le (l.map fun t => brixV t.sap) (brixV x.sap)
    have hs := sap_of x (hok x (by simp))
    obtain ⟨a, b, e, _, _, _, _, h3, h4, h5⟩ := brix_char x.sap hs.1 hs.2.1 hs.2.2.1 hs.2.2.2.1 hs.2.2.2.2
    have hx : brixV x.sap = ⟨a, b⟩ := by unfold brixV; rw [e]
    refine ⟨((l.map fun t => brixV t.sap).foldl HullJ (brixV x.sap)).lo, ((l.map fun t => brixV t.sap).foldl HullJ (brixV x.sap)).hi, ?_, ?_⟩
    · unfold foldS
      rw [if_pos hc]
      simp only [List.map_cons]
      rw [if_neg (by rw [hx] at g1 g2 ⊢; simp only at g1 g2; omega)]
    · intro t ht
      rcases List.mem_cons.1 ht with rfl | ht
      · exact ⟨g1, g2⟩
      · exact g3 _ (List.mem_map.2 ⟨t, ht, rfl⟩)

theorem mixed_ok (xs : List K) (h1 : 1 ≤ xs.length) (h12 : xs.length ≤ 12) (hok : ∀ k ∈ xs, okK k = true) : mixedE xs = (kfin (kacc xs), 0) := by
  unfold mixedE
  rw [if_pos ((checkKegsS_zero xs).2 ⟨h12, List.all_eq_true.2 hok⟩), if_neg (by omega)]

theorem draw_parts (W S m : Int) (hW : 0 ≤ W) (hS : 0 ≤ S) (hM : W + S ≤ 2000000) (h1 : 1 ≤ m) (h2 : m ≤ W + S) :
    ∃ q, drawE ⟨W, S⟩ m = (.agg #[.int .i64 (m - q), .int .i64 q], .agg #[.int .i64 (W - (m - q)), .int .i64 (S - q)], 0) ∧ 0 ≤ q ∧ q ≤ m ∧ q ≤ S ∧ m - q ≤ W := by
  have hSm : S * m ≤ 2000000 * 2000000 := Int.mul_le_mul (by omega) (by omega) (by omega) (by omega)
  obtain ⟨r1, r2, _, _, r5, _⟩ := ratio_floor S m (W + S) hS (by omega) (by omega) (by omega)
  refine ⟨(ratioS S m (W + S)).1, ?_, r5, ?_, ?_, ?_⟩
  · unfold drawE
    rw [if_neg (by rw [(okS_iff ⟨W, S⟩).2 (by simp only; omega)]; decide)]
    rw [if_neg (by rw [(btw1 _ _ _).2 (by simp only; omega)]; decide)]
    unfold leftS drawnS
    simp only
    rw [if_pos (by omega)]
  · generalize (ratioS S m (W + S)).1 = q at r1 r2
    have e : S * m ≤ (W + S) * m := Int.mul_le_mul_of_nonneg_right (by omega) (by omega)
    rw [Int.mul_comm (W + S) m] at e
    exact Int.le_of_mul_le_mul_right (Int.le_trans r1 e) (by omega)
  · generalize (ratioS S m (W + S)).1 = q at r1 r2
    have e : S * m ≤ S * (W + S) := Int.mul_le_mul_of_nonneg_left (by omega) (by omega)
    exact Int.le_of_mul_le_mul_right (Int.le_trans r1 e) (by omega)
  · generalize (ratioS S m (W + S)).1 = q at r1 r2
    have e : (m - W) * (W + S) ≤ S * m := by
      have h := Int.mul_nonneg hW (show 0 ≤ W + S - m by omega)
      have e1 : W * (W + S - m) = W * W + W * S - W * m := by rw [Int.mul_sub, Int.mul_add]
      have e2 : (m - W) * (W + S) = m * W + m * S - (W * W + W * S) := by rw [Int.sub_mul, Int.mul_add, Int.mul_add]
      have e3 : m * W = W * m := Int.mul_comm _ _
      have e4 : m * S = S * m := Int.mul_comm _ _
      omega
    have := Int.lt_of_mul_lt_mul_right (Int.lt_of_le_of_lt e r2) (by omega)
    omega

theorem tmk_math (L : List T3) (part : Int) (hp : 0 ≤ part ∧ part ≤ 65535) (hok : ∀ t ∈ L, t.ok) (h1 : 1 ≤ L.length) (h12 : L.length ≤ 12) :
    ∃ W S lt fl il ih hl hh d0 d1 l0 l1, TmkM L part W S lt fl il ih hl hh d0 d1 l0 l1 := by
  have hkall : ∀ k ∈ L.map T3.keg, okK k = true := by
    intro k hk
    obtain ⟨t, ht, rfl⟩ := List.mem_map.1 hk
    exact keg_of t (hok t ht)
  have hkb := kacc_bound (L.map T3.keg) L.length (by simp) (fun j hj => by
    have hj' : j < (L.map T3.keg).length := by simpa using hj
    rw [List.getElem?_eq_getElem hj', Option.getD_some]
    exact hkall _ (List.getElem_mem hj'))
  rw [show (L.map T3.keg).take L.length = L.map T3.keg from List.take_of_length_le (by simp)] at hkb
  obtain ⟨hs1, hs2⟩ := kacc_sum L ⟨0, 0, 0, 0⟩ ⟨0, 0⟩ rfl rfl
  have hs1' : (kacc (L.map T3.keg)).wa = (sumR (L.map T3.sap)).lo := hs1
  have hs2' : (kacc (L.map T3.keg)).su = (sumR (L.map T3.sap)).hi := hs2
  have hsb := sumR_bound (L.map T3.sap) 0 65536 L.length (by simp) (fun j hj => by
    have hj' : j < (L.map T3.sap).length := by simpa using hj
    rw [List.getElem?_eq_getElem hj', Option.getD_some, List.getElem_map]
    obtain ⟨⟨a, b⟩, ⟨c, d⟩, _⟩ := hok _ (List.getElem_mem hj)
    simp only [T3.sap]
    omega)
  rw [show (L.map T3.sap).take L.length = L.map T3.sap from List.take_of_length_le (by simp)] at hsb
  have hmx := mixed_ok (L.map T3.keg) (by simpa using h1) (by simpa using h12) hkall
  obtain ⟨hl, hh, hhull, hhb⟩ := dense_hull L h1 h12 hok
  have hlow := sum_low hl (L.map T3.sap) (fun x hx => by
    obtain ⟨t, ht, rfl⟩ := List.mem_map.1 hx
    have hs := sap_of t (hok t ht)
    obtain ⟨a, b, e, b1, _⟩ := brix_char t.sap hs.1 hs.2.1 hs.2.2.1 hs.2.2.2.1 hs.2.2.2.2
    have := (hhb t ht).1
    unfold brixV at this
    rw [e] at this
    exact Int.le_trans (Int.mul_le_mul_of_nonneg_right this (by omega)) b1)
  have hhigh := sum_high hh (L.map T3.sap) (fun x hx => by
    obtain ⟨t, ht, rfl⟩ := List.mem_map.1 hx
    have hs := sap_of t (hok t ht)
    obtain ⟨a, b, e, _, _, b3, _⟩ := brix_char t.sap hs.1 hs.2.1 hs.2.2.1 hs.2.2.2.1 hs.2.2.2.2
    have := (hhb t ht).2
    unfold brixV at this
    rw [e] at this
    exact Int.le_trans b3 (Int.mul_le_mul_of_nonneg_right this (by omega)))
  have hmix : mixS (L.map T3.sap) = (sumR (L.map T3.sap), 0) := by
    unfold mixS
    rw [if_neg (by simp only [List.length_map]; omega), if_neg, if_neg]
    · rw [(okS_iff _).2 (by omega)]; decide
    · rw [List.all_eq_true.2]
      · decide
      · intro r hr
        obtain ⟨t, ht, rfl⟩ := List.mem_map.1 hr
        have hs := sap_of t (hok t ht)
        exact (okS_iff _).2 (by omega)
  generalize hKA : kacc (L.map T3.keg) = A at *
  generalize hSR : sumR (L.map T3.sap) = B at *
  obtain ⟨a0, a1, a2, a3⟩ := A
  obtain ⟨W, S⟩ := B
  simp only at hs1' hs2' hkb hsb hlow hhigh
  subst hs1'
  subst hs2'
  obtain ⟨il, ih, hbr, c1, c2, c3, c4, _⟩ := brix_char ⟨a0, a1⟩ (by simp only; omega) (by simp only; omega) (by simp only; omega) (by simp only; omega) (by simp only; omega)
  simp only at c1 c2 c3 c4
  have hMp : 0 < a0 + a1 := by omega
  have hm1 := Int.emod_nonneg part (show a0 + a1 ≠ 0 by omega)
  have hm2 := Int.emod_lt_of_pos part hMp
  obtain ⟨q, hdr, q1, q2, q3, q4⟩ := draw_parts a0 a1 (1 + part % (a0 + a1)) (by omega) (by omega) (by omega) (by omega) (by omega)
  have hlt0 : 0 ≤ a2 / (a0 + a1) := Int.ediv_nonneg (by omega) (by omega)
  have hlt1 : a2 / (a0 + a1) ≤ 1000 := Int.ediv_le_of_le_mul hMp (by omega)
  have hm3 : 1 ≤ 1 + part % (a0 + a1) := by omega
  have hm4 : 1 + part % (a0 + a1) ≤ a0 + a1 := by omega
  refine ⟨a0, a1, a2 / (a0 + a1), a3, il, ih, hl, hh, _, _, _, _, ⟨hmx, hmix, hbr, hhull, ?_, ?_, by omega, hdr, ?_, ?_⟩⟩
  · have := Int.lt_of_mul_lt_mul_right (Int.lt_of_le_of_lt hlow c2) (by omega)
    omega
  · have := Int.lt_of_mul_lt_mul_right (Int.lt_of_lt_of_le c4 hhigh) (by omega)
    omega
  · clear hdr hm1 hm2 hmx hmix hbr hhull hhb hlow hhigh c1 c2 c3 c4
    generalize 1 + part % (a0 + a1) = m at *
    generalize a2 / (a0 + a1) = lt at *
    intro e0 e1
    rw [mixed_ok _ (by simp) (by simp) (fun k hk => by
      obtain rfl := List.mem_singleton.1 hk
      rw [okK_iff]
      simp only
      omega)]
    simp only [kacc, List.foldl_cons, List.foldl_nil, kstep, kfin]
    have f1 : 0 + (m - q) = a0 := by omega
    have f2 : 0 + q = a1 := by omega
    have f3 : m - q + q = a0 + a1 := by omega
    have f4 : max 0 a3 = a3 := by omega
    rw [f1, f2, f3, f4, Int.zero_add, Int.mul_ediv_cancel _ (by omega)]
  · clear hdr hm1 hm2 hmx hmix hbr hhull hhb hlow hhigh c1 c2 c3 c4
    generalize 1 + part % (a0 + a1) = m at *
    generalize a2 / (a0 + a1) = lt at *
    intro e0
    rw [mixed_ok _ (by simp) (by simp) (fun k hk => by
      simp only [List.mem_cons, List.not_mem_nil, or_false] at hk
      rcases hk with rfl | rfl
      · rw [okK_iff]
        simp only
        omega
      · rw [okK_iff]
        simp only
        omega)]
    simp only [kacc, List.foldl_cons, List.foldl_nil, kstep, kfin]
    have f1 : 0 + (m - q) + (a0 - (m - q)) = a0 := by omega
    have f2 : 0 + q + (a1 - q) = a1 := by omega
    have f3 : 0 + lt * (m - q + q) + lt * (a0 - (m - q) + (a1 - q)) = lt * (a0 + a1) := by rw [Int.zero_add, ← Int.mul_add]; congr 1; omega
    have f4 : max (max 0 a3) a3 = a3 := by omega
    rw [f1, f2, f3, f4, Int.mul_ediv_cancel _ (by omega)]

theorem brix_ok (s : R) (h0 : 0 ≤ s.lo) (h1 : 1 ≤ s.hi) (h2 : s.lo ≤ 1000000000) (h3 : s.hi ≤ 1000000000) : (brixS s).2 = 0 := by
  obtain ⟨a, b, e, _⟩ := brix_char s h0 (by omega) h2 h3 (by omega)
  rw [e]

end Go.Proofs.Ytgpojnghdhophaa
