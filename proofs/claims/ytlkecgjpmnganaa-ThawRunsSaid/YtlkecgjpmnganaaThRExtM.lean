/- The reference's Extreme: its two tables while they are filled. -/
import Derived.Test.YtlkecgjpmnganaaThRExt
set_option linter.unusedSimpArgs false
set_option linter.unusedVariables false
namespace Go.Proofs.Ytlkecgjpmnganaa
open Go.RowKit Go.Shelf

def bdone (c' i' x y : Nat) : Prop := x < c' ∨ (x = c' ∧ y < i')
/-- both tables of one hour, so far -/
structure St2 (r : TR) (most : Bool) (ts : List R) (n L P idx c' i' : Nat) (W : World) : Prop where
  wl : Wrt W L ((n + 1) * 1891)
  wp : Wrt W P (n * 1891)
  up : ∀ j, idx + 1 ≤ j → j ≤ n → NTab r W L (j * 1891) (restS r most (ts.drop j))
  uq : ∀ j, idx + 1 ≤ j → j < n → NTab r W P (j * 1891) (kindAtS r most ts j)
  dl : ∀ x y : Nat, stIn r ((x : Int), (y : Int)) → bdone c' i' x y → W.cell? ⟨L, idx * 1891 + x * 31 + y, none⟩ = some (.int .i64 (restS r most (ts.drop idx) ((x : Int), (y : Int))))
  dp : ∀ x y : Nat, stIn r ((x : Int), (y : Int)) → bdone c' i' x y → W.cell? ⟨P, idx * 1891 + x * 31 + y, none⟩ = some (.int .i64 (kindAtS r most ts idx ((x : Int), (y : Int))))
  zl : ∀ x y : Nat, x < 61 → y < 31 → ¬ bdone c' i' x y → W.cell? ⟨L, idx * 1891 + x * 31 + y, none⟩ = some (.int .i64 0) ∧ W.cell? ⟨P, idx * 1891 + x * 31 + y, none⟩ = some (.int .i64 0)
  zz : ∀ o, o < idx * 1891 → W.cell? ⟨L, o, none⟩ = some (.int .i64 0) ∧ W.cell? ⟨P, o, none⟩ = some (.int .i64 0)
/-- the same at one state, while its kinds are tried -/
structure St3 (r : TR) (most : Bool) (ts : List R) (n L P idx c' i' : Nat) (pv lv : Int) (W : World) : Prop where
  wl : Wrt W L ((n + 1) * 1891)
  wp : Wrt W P (n * 1891)
  up : ∀ j, idx + 1 ≤ j → j ≤ n → NTab r W L (j * 1891) (restS r most (ts.drop j))
  uq : ∀ j, idx + 1 ≤ j → j < n → NTab r W P (j * 1891) (kindAtS r most ts j)
  dl : ∀ x y : Nat, stIn r ((x : Int), (y : Int)) → bdone c' i' x y → W.cell? ⟨L, idx * 1891 + x * 31 + y, none⟩ = some (.int .i64 (restS r most (ts.drop idx) ((x : Int), (y : Int))))
  dp : ∀ x y : Nat, stIn r ((x : Int), (y : Int)) → bdone c' i' x y → W.cell? ⟨P, idx * 1891 + x * 31 + y, none⟩ = some (.int .i64 (kindAtS r most ts idx ((x : Int), (y : Int))))
  zl : ∀ x y : Nat, x < 61 → y < 31 → ¬ bdone c' (i' + 1) x y → W.cell? ⟨L, idx * 1891 + x * 31 + y, none⟩ = some (.int .i64 0) ∧ W.cell? ⟨P, idx * 1891 + x * 31 + y, none⟩ = some (.int .i64 0)
  zz : ∀ o, o < idx * 1891 → W.cell? ⟨L, o, none⟩ = some (.int .i64 0) ∧ W.cell? ⟨P, o, none⟩ = some (.int .i64 0)
  cl : W.cell? ⟨L, idx * 1891 + c' * 31 + i', none⟩ = some (.int .i64 lv)
  cp : W.cell? ⟨P, idx * 1891 + c' * 31 + i', none⟩ = some (.int .i64 pv)

section
variable {r : TR} {most : Bool} {ts : List R} {n L P idx c' i' : Nat} {pv lv : Int} {W W' : World}

theorem cell_blk {b o : Nat} {v : Option Value} (h : W.cell? ⟨b, o, none⟩ = v) (e : W'.heap[b]? = W.heap[b]?) : W'.cell? ⟨b, o, none⟩ = v := (World.cell?_of_block (a := ⟨b, o, none⟩) e).trans h
theorem St2.blk (h : St2 r most ts n L P idx c' i' W) (eL : W'.heap[L]? = W.heap[L]?) (eP : W'.heap[P]? = W.heap[P]?) : St2 r most ts n L P idx c' i' W' :=
  ⟨h.wl.same eL, h.wp.same eP, fun j h1 h2 c i hs => cell_blk (h.up j h1 h2 c i hs) eL, fun j h1 h2 c i hs => cell_blk (h.uq j h1 h2 c i hs) eP, fun x y h1 h2 => cell_blk (h.dl x y h1 h2) eL, fun x y h1 h2 => cell_blk (h.dp x y h1 h2) eP,
    fun x y h1 h2 h3 => ⟨cell_blk (h.zl x y h1 h2 h3).1 eL, cell_blk (h.zl x y h1 h2 h3).2 eP⟩, fun o ho => ⟨cell_blk (h.zz o ho).1 eL, cell_blk (h.zz o ho).2 eP⟩⟩
theorem St3.blk (h : St3 r most ts n L P idx c' i' pv lv W) (eL : W'.heap[L]? = W.heap[L]?) (eP : W'.heap[P]? = W.heap[P]?) : St3 r most ts n L P idx c' i' pv lv W' :=
  ⟨h.wl.same eL, h.wp.same eP, fun j h1 h2 c i hs => cell_blk (h.up j h1 h2 c i hs) eL, fun j h1 h2 c i hs => cell_blk (h.uq j h1 h2 c i hs) eP, fun x y h1 h2 => cell_blk (h.dl x y h1 h2) eL, fun x y h1 h2 => cell_blk (h.dp x y h1 h2) eP,
    fun x y h1 h2 h3 => ⟨cell_blk (h.zl x y h1 h2 h3).1 eL, cell_blk (h.zl x y h1 h2 h3).2 eP⟩, fun o ho => ⟨cell_blk (h.zz o ho).1 eL, cell_blk (h.zz o ho).2 eP⟩, cell_blk h.cl eL, cell_blk h.cp eP⟩
theorem St2.start3 (h : St2 r most ts n L P idx c' i' W) (hc : c' < 61) (hi : i' < 31) : St3 r most ts n L P idx c' i' 0 0 W :=
  ⟨h.wl, h.wp, h.up, h.uq, h.dl, h.dp, fun x y h1 h2 h3 => h.zl x y h1 h2 (fun hb => h3 (by unfold bdone at *; omega)), h.zz, (h.zl c' i' hc hi (by unfold bdone; omega)).1, (h.zl c' i' hc hi (by unfold bdone; omega)).2⟩
theorem St3.stop3 (h : St3 r most ts n L P idx c' i' pv lv W) (hp : pv = kindAtS r most ts idx ((c' : Int), (i' : Int))) (hl : lv = restS r most (ts.drop idx) ((c' : Int), (i' : Int))) : St2 r most ts n L P idx c' (i' + 1) W := by
  refine ⟨h.wl, h.wp, h.up, h.uq, fun x y h1 h2 => ?_, fun x y h1 h2 => ?_, h.zl, h.zz⟩
  · by_cases e : bdone c' i' x y
    · exact h.dl x y h1 e
    · obtain ⟨rfl, rfl⟩ : x = c' ∧ y = i' := by unfold bdone at *; omega
      rw [h.cl, hl]
  · by_cases e : bdone c' i' x y
    · exact h.dp x y h1 e
    · obtain ⟨rfl, rfl⟩ : x = c' ∧ y = i' := by unfold bdone at *; omega
      rw [h.cp, hp]
theorem St2.row (hr : TROk r) (h : St2 r most ts n L P idx c' i' W) (hi : r.most < i') (hi2 : i' ≤ 31) : St2 r most ts n L P idx (c' + 1) 0 W := by
  have hm2 := hr.m2
  refine ⟨h.wl, h.wp, h.up, h.uq, fun x y h1 h2 => ?_, fun x y h1 h2 => ?_, fun x y h1 h2 h3 => h.zl x y h1 h2 (fun hb => h3 (by unfold bdone at *; omega)), h.zz⟩
  · exact h.dl x y h1 (by obtain ⟨a1, a2, a3, a4⟩ := h1; simp only at a1 a2 a3 a4; unfold bdone at *; omega)
  · exact h.dp x y h1 (by obtain ⟨a1, a2, a3, a4⟩ := h1; simp only at a1 a2 a3 a4; unfold bdone at *; omega)
/-- a pick and what it brings are put down -/
theorem St3.set (hr : TROk r) (h : St3 r most ts n L P idx c' i' pv lv W) (hc : c' < 61) (hi : i' < 31) (hn : idx < n) (hLP : L ≠ P) (pv' lv' : Int) :
    St3 r most ts n L P idx c' i' pv' lv' ((W.setCell ⟨P, idx * 1891 + c' * 31 + i', none⟩ (.int .i64 pv')).setCell ⟨L, idx * 1891 + c' * 31 + i', none⟩ (.int .i64 lv')) := by
  have hu2 := hr.u2; have hm2 := hr.m2
  have hPL : P ≠ L := fun e => hLP e.symm
  have farL : ∀ o, o ≠ idx * 1891 + c' * 31 + i' → ∀ v, W.cell? ⟨L, o, none⟩ = some v → ((W.setCell ⟨P, idx * 1891 + c' * 31 + i', none⟩ (.int .i64 pv')).setCell ⟨L, idx * 1891 + c' * 31 + i', none⟩ (.int .i64 lv')).cell? ⟨L, o, none⟩ = some v := fun o ho v hv => by
    rw [cell_set, if_neg (fun e => ho e.2.symm), cell_set, if_neg (fun e => hPL e.1)]; exact hv
  have farP : ∀ o, o ≠ idx * 1891 + c' * 31 + i' → ∀ v, W.cell? ⟨P, o, none⟩ = some v → ((W.setCell ⟨P, idx * 1891 + c' * 31 + i', none⟩ (.int .i64 pv')).setCell ⟨L, idx * 1891 + c' * 31 + i', none⟩ (.int .i64 lv')).cell? ⟨P, o, none⟩ = some v := fun o ho v hv => by
    rw [cell_set, if_neg (fun e => hLP e.1), cell_set, if_neg (fun e => ho e.2.symm)]; exact hv
  have wset : ∀ {b N : Nat}, Wrt W b N → ∀ b' o v, Wrt (W.setCell ⟨b', o, none⟩ v) b N := fun {b N} hw b' o v => by
    by_cases e : b' = b
    · subst e; exact hw.set o v
    · exact ⟨fun o' ho => by obtain ⟨u, hu⟩ := hw.1 o' ho; exact ⟨u, by rw [cell_set, if_neg (fun h => e h.1)]; exact hu⟩, fun o' => by rw [World.frozen?_setCell]; exact hw.2 o'⟩
  have wset2 : ∀ {X : World} {b N : Nat}, Wrt X b N → ∀ b' o v, Wrt (X.setCell ⟨b', o, none⟩ v) b N := fun {X b N} hw b' o v => by
    by_cases e : b' = b
    · subst e; exact hw.set o v
    · exact ⟨fun o' ho => by obtain ⟨u, hu⟩ := hw.1 o' ho; exact ⟨u, by rw [cell_set, if_neg (fun h => e h.1)]; exact hu⟩, fun o' => by rw [World.frozen?_setCell]; exact hw.2 o'⟩
  have hin : ∀ x y : Nat, stIn r ((x : Int), (y : Int)) → x < 61 ∧ y < 31 := fun x y h1 => by
    obtain ⟨a1, a2, a3, a4⟩ := h1; simp only at a1 a2 a3 a4; omega
  refine ⟨wset2 (wset2 h.wl _ _ _) _ _ _, wset2 (wset2 h.wp _ _ _) _ _ _, fun j h1 h2 c i hs => ?_, fun j h1 h2 c i hs => ?_, fun x y h1 h2 => ?_, fun x y h1 h2 => ?_, fun x y h1 h2 h3 => ?_, fun o ho => ?_, ?_, ?_⟩
  · have := hin c i hs
    exact farL _ (by omega) _ (h.up j h1 h2 c i hs)
  · have := hin c i hs
    exact farP _ (by omega) _ (h.uq j h1 h2 c i hs)
  · have := hin x y h1
    exact farL _ (by unfold bdone at h2; omega) _ (h.dl x y h1 h2)
  · have := hin x y h1
    exact farP _ (by unfold bdone at h2; omega) _ (h.dp x y h1 h2)
  · have hne : idx * 1891 + x * 31 + y ≠ idx * 1891 + c' * 31 + i' := by unfold bdone at h3; omega
    exact ⟨farL _ hne _ (h.zl x y h1 h2 h3).1, farP _ hne _ (h.zl x y h1 h2 h3).2⟩
  · exact ⟨farL _ (by omega) _ (h.zz o ho).1, farP _ (by omega) _ (h.zz o ho).2⟩
  · rw [cell_set, if_pos ⟨rfl, rfl⟩, cell_set, if_neg (fun e => hPL e.1), h.cl]; rfl
  · rw [cell_set, if_neg (fun e => hLP e.1), cell_set, if_pos ⟨rfl, rfl⟩, h.cp]; rfl
end

/-- both tables between two hours -/
structure St1 (r : TR) (most : Bool) (ts : List R) (n L P m : Nat) (W : World) : Prop where
  wl : Wrt W L ((n + 1) * 1891)
  wp : Wrt W P (n * 1891)
  up : ∀ j, m ≤ j → j ≤ n → NTab r W L (j * 1891) (restS r most (ts.drop j))
  uq : ∀ j, m ≤ j → j < n → NTab r W P (j * 1891) (kindAtS r most ts j)
  zz : ∀ o, o < m * 1891 → W.cell? ⟨L, o, none⟩ = some (.int .i64 0) ∧ W.cell? ⟨P, o, none⟩ = some (.int .i64 0)
set_option maxRecDepth 100000 in
theorem St1.open2 {r : TR} {most : Bool} {ts : List R} {n L P idx : Nat} {W : World} (h : St1 r most ts n L P (idx + 1) W) : St2 r most ts n L P idx 0 0 W :=
  ⟨h.wl, h.wp, h.up, h.uq, fun x y _ hb => by unfold bdone at hb; omega, fun x y _ hb => by unfold bdone at hb; omega, fun x y h1 h2 _ => h.zz (idx * 1891 + x * 31 + y) (by omega), fun o ho => h.zz o (by omega)⟩
theorem St2.shut2 {r : TR} {most : Bool} {ts : List R} {n L P idx c' : Nat} {W : World} (h : St2 r most ts n L P idx c' 0 W) (hc : r.full < c') : St1 r most ts n L P idx W := by
  refine ⟨h.wl, h.wp, fun j h1 h2 => ?_, fun j h1 h2 => ?_, h.zz⟩
  · by_cases e : j = idx
    · subst e
      intro c i hs
      exact h.dl c i hs (by obtain ⟨a1, a2, a3, a4⟩ := hs; simp only at a1 a2 a3 a4; unfold bdone; omega)
    · exact h.up j (by omega) h2
  · by_cases e : j = idx
    · subst e
      intro c i hs
      exact h.dp c i hs (by obtain ⟨a1, a2, a3, a4⟩ := hs; simp only at a1 a2 a3 a4; unfold bdone; omega)
    · exact h.uq j (by omega) h2
theorem St1.blk {r : TR} {most : Bool} {ts : List R} {n L P m : Nat} {W W' : World} (h : St1 r most ts n L P m W) (eL : W'.heap[L]? = W.heap[L]?) (eP : W'.heap[P]? = W.heap[P]?) : St1 r most ts n L P m W' :=
  ⟨h.wl.same eL, h.wp.same eP, fun j h1 h2 c i hs => cell_blk (h.up j h1 h2 c i hs) eL, fun j h1 h2 c i hs => cell_blk (h.uq j h1 h2 c i hs) eP, fun o ho => ⟨cell_blk (h.zz o ho).1 eL, cell_blk (h.zz o ho).2 eP⟩⟩

/-- the best of the kinds below q -/
def bestQ (r : TR) (most : Bool) (lo hi : Int) (V : St → Int) (s : St) (q : Nat) : Int × Int := ((kindsT r lo hi).filter fun k => decide (k < (q : Int))).foldl (bestF r most V s) (0, 0)
theorem bestQ_one (r : TR) (most : Bool) (lo hi : Int) (V : St → Int) (s : St) : bestQ r most lo hi V s 1 = (0, 0) := by
  unfold bestQ
  rw [List.filter_eq_nil_iff.2 (fun k hk => by have := kinds_mem hk; simp; omega)]
  rfl
theorem bestQ_four (r : TR) (most : Bool) (lo hi : Int) (V : St → Int) (s : St) : bestQ r most lo hi V s 4 = bestS r most lo hi V s := by
  unfold bestQ bestS
  rw [List.filter_eq_self.2 (fun k hk => by have := kinds_mem hk; simp; omega)]
theorem bestQ_succ (r : TR) (most : Bool) (lo hi : Int) (V : St → Int) (s : St) (q : Nat) (h1 : 1 ≤ q) (h3 : q ≤ 3) : bestQ r most lo hi V s (q + 1) = if canT r lo hi q then bestF r most V s (bestQ r most lo hi V s q) q else bestQ r most lo hi V s q := by
  unfold bestQ kindsT
  have hq : q = 1 ∨ q = 2 ∨ q = 3 := by omega
  cases a1 : canT r lo hi 1 <;> cases a2 : canT r lo hi 2 <;> cases a3 : canT r lo hi 3 <;> rcases hq with rfl | rfl | rfl <;> simp [a1, a2, a3]

end Go.Proofs.Ytlkecgjpmnganaa
