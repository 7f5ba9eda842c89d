/- Contracts: thaw.Ends. -/
import Derived.Test.YtlkecgjpmnganaaThTab3
import Derived.Test.YtlkecgjpmnganaaThFirst
import Derived.Test.YtlkecgjpmnganaaThRangeB
import Derived.Test.YtlkecgjpmnganaaThExtreme
set_option linter.unusedSimpArgs false
set_option linter.unusedVariables false
namespace Go.Proofs.Ytlkecgjpmnganaa
open Go.RowKit Go.Shelf
attribute [local go_sem] Oper.semAt_some

theorem KB.size_le {n₀ nb : Nat} {A B : World} (h : KB n₀ nb A B) (hA : n₀ ≤ A.heap.size) (hn : nb + 1 < n₀) : n₀ ≤ B.heap.size := by
  have h1 := h (n₀ - 1) (by omega) (by omega)
  have h2 : (n₀ - 1) < A.heap.size := by omega
  rw [Array.getElem?_eq_getElem h2] at h1
  have := (Array.getElem?_eq_some_iff.1 h1).1
  omega

set_option maxRecDepth 100000 in
set_option maxHeartbeats 2000000 in
/-- the iterator's walk -/
theorem states1B_in (F : Fence) (n : Nat) (hf : F.fn 68) (hro : F.round = none) (hn : 1 ≤ n) (l b n₀ nb : Nat) (G : Fl) (hb : b < n₀) (hbn : nb ≠ b) (hnb : nb + 1 < n₀) (J : List (St × (Int × Int)) → World → Prop) (W : World) (hn₀ : n₀ ≤ W.heap.size) (hJ : AbidesFrom W.heap.size J)
    (hY : ∀ pre x W1, J pre W1 → pre ++ [x] <+: come G 1891 → YieldAt F (n - 1) Try.prog l (encS x) W1 fun e W' =>
      e = .returned (.bool true) ∧ J (pre ++ [x]) W' ∧ KB n₀ nb W1 W')
    (hG : Fld W b G) (h0 : J [] W) :
    CallsIn F n Try.prog 68 #[.pointer (some ⟨b, 0, none⟩), .func (.yield l) #[] #[]] W fun e W' => (∃ v, e = .returned v) ∧ J (come G 1891) W' := by
  refine callsIn_of_wp Try.func68 rfl hf ?_ hro
  simp only [Try.ntmps68, List.size_toArray, List.length_cons, List.length_nil, Nat.reduceAdd, Nat.reduceSub, Array.replicate_succ, Array.replicate_zero, List.push_toArray, List.append_toArray, List.nil_append, List.cons_append]
  gi_wp2
  gi_loopw [7] (fun i wr => ∃ c : Nat, c ≤ 61 ∧ i = .int .i64 c ∧ J (come G (c * 31)) wr ∧ KB n₀ nb W wr ∧ n₀ ≤ wr.heap.size)
    (fun i _ => 61 - (intOf i).toNat)
  case atStart => exact ⟨0, Nat.zero_le _, rfl, h0, KB.refl _ _ _, hn₀⟩
  case round =>
    obtain ⟨c, hc, rfl, hJs, hnx, hsz⟩ := hrel
    by_cases hlt : c < 61
    · have hGr : Fld wr b G := fun c i k hc hi hk => (hnx.cell hb (by omega)).trans (hG c i k hc hi hk)
      have hrow := hGr.row c hlt
      have k1 : (0 : Int) ≤ c := by omega
      have k2 : (c : Int) < 61 := by omega
      gi_wp2_with (refine wpListIn_load_mid rfl 149 _ rfl b (c * 93) (by simp [go_sem]) (rowF G c) _ hrow Try.underlying149 rfl (by rw [rowF_len]; kernel_rfl) ?_)
      gi_loopw [15] (fun i wr2 => ∃ i' : Nat, i' ≤ 31 ∧ i = .int .i64 i' ∧ J (come G (c * 31 + i')) wr2 ∧ KB n₀ nb W wr2 ∧ n₀ ≤ wr2.heap.size)
        (fun i _ => 31 - (intOf i).toNat)
      case atStart => exact ⟨0, Nat.zero_le _, rfl, hJs, hnx, hsz⟩
      case round =>
        obtain ⟨i, hi, rfl, hJ2, hnx2, hsz2⟩ := hrel
        by_cases hlt2 : i < 31
        · have hpart : ∀ (w : World), (Instr.index 149 (.agg (rowF G c).toArray) (.int .i64 i)).run Try.prog w = .ok (cV (G ((c : Int), (i : Int)))) w := fun w => by
            rw [run_index_row 149 118 31 3 _ i w Try.underlying149 (Try.isAgg118 w) (Try.sizeOf118 w) hlt2, rowF_at G c i hlt2]
          have k3 : (0 : Int) ≤ i := by omega
          have k4 : (i : Int) < 31 := by omega
          cases hq : G ((c : Int), (i : Int)) with
          | none =>
            rw [hq] at hpart
            have hcome := come_none G c i hlt2 hq
            gi_wp2_with (refine wpListIn_index_row rfl 149 _ _ rfl (.agg #[.int .i64 0, .int .i64 0, .bool false]) (hpart _) ?_)
            refine ⟨fun _ h => (by cases h), ?_⟩
            gi_wp2
            go_roundw
            case rel => exact ⟨i + 1, by omega, by simp, by rw [show c * 31 + (i + 1) = c * 31 + i + 1 by omega, hcome]; exact hJ _ _ _ none hJ2 (grown_alloc _ _) (fun r e => by cases e), hnx2.trans (KB.of_below ((Below.refl n₀ _).alloc hsz2 _)), by simp; omega⟩
            case measure => simp [intOf]; omega
          | some p =>
            obtain ⟨p1, p2⟩ := p
            rw [hq] at hpart
            have hcome := come_some G c i hlt2 (p1, p2) hq
            obtain ⟨fn, tmps, assign, body, hy, hR⟩ := hY _ (((c : Int), (i : Int)), (p1, p2)) (wr.alloc (.cells #[.int .i64 p1, .int .i64 p2, .bool true] 118)) (hJ _ _ _ none hJ2 (grown_alloc _ _) (fun r e => by cases e)) (by rw [← hcome]; exact come_prefix G (by omega))
            simp only [encS, sV, cV] at hy
            gi_wp2_with (refine wpListIn_index_row rfl 149 _ _ rfl (.agg #[.int .i64 p1, .int .i64 p2, .bool true]) (hpart _) ?_)
            refine hR.mono ?_
            rintro e W3 ⟨rfl, hJ3, hk3⟩
            gi_wp2
            go_roundw
            case rel => exact ⟨i + 1, by omega, by simp, by rw [show c * 31 + (i + 1) = c * 31 + i + 1 by omega, hcome]; exact hJ3, (hnx2.trans (KB.of_below ((Below.refl n₀ _).alloc hsz2 _))).trans hk3, hk3.size_le (by simp; omega) (by omega)⟩
            case measure => simp [intOf]; omega
        · obtain rfl : i = 31 := by omega
          gi_wp2
          go_roundw
          case rel => exact ⟨c + 1, by omega, by simp, by rw [Nat.succ_mul]; exact hJ2, hnx2, hsz2⟩
          case measure => simp [intOf]; omega
    · obtain rfl : c = 61 := by omega
      gi_wp2
      go_end0
      exact ⟨⟨_, rfl⟩, hJs⟩


theorem states_givesB (F : Fence) (n : Nat) (hf : F.fn 68) (hro : F.round = none) (hn : 1 ≤ n) (b n₀ nb : Nat) (G : Fl) (w : World) (hb : b < n₀) (hbn : nb ≠ b) (hnb : nb + 1 < n₀) (hn₀ : n₀ ≤ w.heap.size) (hG : Fld w b G) :
    GivesAllB F n Try.prog 68 #[.pointer (some ⟨b, 0, none⟩)] #[] encS n₀ nb (come G 1891) w := by
  intro l J W hW hJ hY h0
  exact states1B_in F n hf hro hn l b n₀ nb G hb hbn hnb J W (Nat.le_trans hn₀ hW.size) hJ hY (hG.below hW (by omega)) h0

theorem keeps_own {α : Type} {L : Lay α} {t : TypeId} {W W' : World} {base : Nat} {v : Value} {xs : List α} (h : OwnK L t W base v xs) (hg : W.grownBy W' v.ownBlock) (B : Nat) : KeepsFrom B W W' := by
  refine ⟨hg.size, fun k o hB hk ho => ?_⟩
  refine (hg.block k (Array.getElem?_eq_some_iff.1 hk).1 (fun e => ?_)).trans hk
  rcases h.2 with ⟨hn, _⟩ | ⟨g, cap, cur, hv, hb, hh, rest⟩
  · rw [hn] at e; cases e
  · rw [hv] at e
    obtain rfl : k = g := by simpa [Value.ownBlock] using e
    rw [hk] at hh
    obtain rfl := Option.some.inj hh
    cases ho
theorem OwnK.blk {α : Type} {L : Lay α} {t : TypeId} {W W' : World} {base : Nat} {v : Value} {xs : List α} (h : OwnK L t W base v xs) (hk : ∀ (k : Nat) (o : Obj), W.heap[k]? = some o → o.isCells = true → W'.heap[k]? = some o) : OwnK L t W' base v xs := by
  refine ⟨h.1, ?_⟩
  rcases h.2 with hn | ⟨g, cap, cur, hv, hb, hh, rest⟩
  · exact Or.inl hn
  · exact Or.inr ⟨g, cap, cur, hv, hb, hk g _ hh rfl, rest⟩

theorem wp_normal {P : Program} {c : Code} {Q : Exit → Act → World → Prop} {a : Act} {w : World} (h : c.wp P (Exit.then (fun a' w' => Q .normal a' w') (fun _ _ _ => False)) a w) : c.wp P Q a w :=
  wp_mono h (fun e a w hq => by cases e <;> first | exact hq | exact hq.elim)
theorem bt' {B : Nat} {a b c : World} (h : Below B a b) (hB : B ≤ a.heap.size) (k : Below b.heap.size b c) : Below B a c := h.trans (k.mono (Nat.le_trans hB h.size))
/-- behind Ends -/
def EndsPost (w : World) (er : Int) (C : Cs) (e : Ending) (w' : World) : Prop := ∃ A n c xs, e = .returned (.tuple #[.slice A n c, .int .i64 er]) ∧ xs.length = n ∧ n ≤ c ∧ c ≤ maxLen ∧ Ranges w' w.heap.size A xs ∧ (er ≠ 0 → xs = []) ∧ (er = 0 → ∃ G, Rep G C ∧ xs = endsR G 1891) ∧ Below w.heap.size w w'

theorem infoState : (Try.prog.info? 27).map (fun i => (i.zero, i.size, i.bytes)) = some (some (.agg #[.int .i64 0, .int .i64 0]), 2, 16) := by kernel_rfl

set_option maxRecDepth 100000 in
set_option maxHeartbeats 2000000 in
theorem ends_any (r : TR) (c i : Int) (lo : Nat) (A : Option Addr) (n cc : Nat) (ts : List R) (w : World) (hx : Ranges w lo A ts) (hn : Aside (ts.length = n)) (hl : n ≤ maxLen) :
    Calls Try.prog 30 #[rV r, .agg #[.int .i64 c, .int .i64 i], .slice A n cc] w (EndsPost w (errT r c i ts) (thruC r (ts.map pr) (oneC (c, i)))) := by
  have h1 := fun (W : World) (hb : Below w.heap.size w W) => check_any r c i lo A n cc ts W (hx.below hb (Nat.le_refl _)) hn hl
  have hrv : rV r = .agg #[.int .i64 r.frost, .int .i64 r.thaw, .int .i64 r.gain, .int .i64 r.full, .int .i64 r.ice, .int .i64 r.most, .int .i64 r.melt, .int .i64 r.rlow, .int .i64 r.rhigh, .int .i64 r.pull] := rfl
  by_cases h0 : errT r c i ts = 0
  · obtain ⟨hr, hst, hlen, hok⟩ := errT_ok h0
    rw [h0] at h1 ⊢
    obtain ⟨c, i, hc, hi, e⟩ := in_nat hr hst
    obtain ⟨rfl, rfl⟩ := Prod.mk.inj e
    have hin0 := oneC_in hst
    have hn9 : n ≤ 1000 := by have := hn.out; omega
    have hT := fun b G C (B : Int) W h1 h2 h3 h4 h5 h6 h7 => through_any r hr b G C lo A n cc ts B W h1 h2 h3 h4 h5 h6 hn h7 hn9
    rw [hrv] at h1 hT ⊢
    have HX : Aside (Ranges w lo A ts) := hx
    have hH := fun W => from_any c i (by omega) (by omega) W
    obtain ⟨i5, hi5, hzi, hsi, hbi⟩ := info_parts infoState
    clear hx hok h0 e hrv
    refine (callsIn_wide (n := 5)).1 ?_
    obtain ⟨F, hFn, hro, hF⟩ := some_wide
    rw [← hF.out]
    obtain ⟨nn, hnn, hnn1⟩ : ∃ n : Nat, n = 5 ∧ 1 ≤ n - 1 - 1 := ⟨5, rfl, by omega⟩
    rw [← hnn]
    refine callsIn_of_wp_marks Try.func30 rfl (hFn _) ?_ hro
    simp only [Try.ntmps30, List.size_toArray, List.length_cons, List.length_nil, Nat.reduceAdd, Nat.reduceSub, Array.replicate_succ, Array.replicate_zero, List.push_toArray, List.append_toArray, List.nil_append, List.cons_append]
    have f17 := hFn 17
    gi_wp2_with fail
    obtain ⟨E0, hNE0⟩ : ∃ X, X = w.alloc (.cells #[.int .i64 r.frost, .int .i64 r.thaw, .int .i64 r.gain, .int .i64 r.full, .int .i64 r.ice, .int .i64 r.most, .int .i64 r.melt, .int .i64 r.rlow, .int .i64 r.rhigh, .int .i64 r.pull] 25) := ⟨_, rfl⟩
    have hsE0 : E0.heap.size = w.heap.size + 1 := by rw [hNE0]; simp
    have hbE0 : Below w.heap.size w E0 := by rw [hNE0]; exact (Below.refl _ _).alloc (Nat.le_refl _) _
    have q0 : E0.cell? ⟨w.heap.size, 0, none⟩ = some (.int .i64 r.frost) := by rw [hNE0]; simp [go_sem]
    have q1 : E0.cell? ⟨w.heap.size, 1, none⟩ = some (.int .i64 r.thaw) := by rw [hNE0]; simp [go_sem]
    have q2 : E0.cell? ⟨w.heap.size, 2, none⟩ = some (.int .i64 r.gain) := by rw [hNE0]; simp [go_sem]
    have q3 : E0.cell? ⟨w.heap.size, 3, none⟩ = some (.int .i64 r.full) := by rw [hNE0]; simp [go_sem]
    have q4 : E0.cell? ⟨w.heap.size, 4, none⟩ = some (.int .i64 r.ice) := by rw [hNE0]; simp [go_sem]
    have q5 : E0.cell? ⟨w.heap.size, 5, none⟩ = some (.int .i64 r.most) := by rw [hNE0]; simp [go_sem]
    have q6 : E0.cell? ⟨w.heap.size, 6, none⟩ = some (.int .i64 r.melt) := by rw [hNE0]; simp [go_sem]
    have q7 : E0.cell? ⟨w.heap.size, 7, none⟩ = some (.int .i64 r.rlow) := by rw [hNE0]; simp [go_sem]
    have q8 : E0.cell? ⟨w.heap.size, 8, none⟩ = some (.int .i64 r.rhigh) := by rw [hNE0]; simp [go_sem]
    have q9 : E0.cell? ⟨w.heap.size, 9, none⟩ = some (.int .i64 r.pull) := by rw [hNE0]; simp [go_sem]
    rw [← hNE0]
    clear hNE0
    obtain ⟨E1, hNE1⟩ : ∃ X, X = E0.alloc (.cells #[.int .i64 (c : Int), .int .i64 (i : Int)] 27) := ⟨_, rfl⟩
    have hsE1 : E1.heap.size = w.heap.size + 1 + 1 := by rw [hNE1]; simp; omega
    have hbE1 : Below E0.heap.size E0 E1 := by rw [hNE1]; exact (Below.refl _ _).alloc (Nat.le_refl _) _
    have s0 : E1.cell? ⟨w.heap.size + 1, 0, none⟩ = some (.int .i64 (c : Int)) := by rw [hNE1, ← hsE0]; simp [go_sem]
    have s1 : E1.cell? ⟨w.heap.size + 1, 1, none⟩ = some (.int .i64 (i : Int)) := by rw [hNE1, ← hsE0]; simp [go_sem]
    rw [← hNE1]
    clear hNE1
    obtain ⟨E2, hNE2⟩ : ∃ X, X = E1.alloc (.cells #[.slice none 0 0] 56) := ⟨_, rfl⟩
    have hsE2 : E2.heap.size = w.heap.size + 1 + 1 + 1 := by rw [hNE2]; simp; omega
    have hbE2 : Below E1.heap.size E1 E2 := by rw [hNE2]; exact (Below.refl _ _).alloc (Nat.le_refl _) _
    have u0 : E2.cell? ⟨w.heap.size + 1 + 1, 0, none⟩ = some (.slice none 0 0) := by rw [hNE2, ← hsE1]; simp [go_sem]
    have v0 : E2.frozen? ⟨w.heap.size + 1 + 1, 0, none⟩ = false := by rw [hNE2, ← hsE1]; simp [go_sem]
    rw [← hNE2]
    clear hNE2
    have hcE1 : Below E1.heap.size E1 E2 := hbE2
    replace s0 := (hcE1.cell (p := ⟨w.heap.size + 1, 0, none⟩) (by show w.heap.size + 1 < _; omega)).trans s0
    replace s1 := (hcE1.cell (p := ⟨w.heap.size + 1, 1, none⟩) (by show w.heap.size + 1 < _; omega)).trans s1
    have hcE0 : Below E0.heap.size E0 E2 := hbE1.trans (hcE1.mono hbE1.size)
    replace q0 := (hcE0.cell (p := ⟨w.heap.size, 0, none⟩) (by show w.heap.size < _; omega)).trans q0
    replace q1 := (hcE0.cell (p := ⟨w.heap.size, 1, none⟩) (by show w.heap.size < _; omega)).trans q1
    replace q2 := (hcE0.cell (p := ⟨w.heap.size, 2, none⟩) (by show w.heap.size < _; omega)).trans q2
    replace q3 := (hcE0.cell (p := ⟨w.heap.size, 3, none⟩) (by show w.heap.size < _; omega)).trans q3
    replace q4 := (hcE0.cell (p := ⟨w.heap.size, 4, none⟩) (by show w.heap.size < _; omega)).trans q4
    replace q5 := (hcE0.cell (p := ⟨w.heap.size, 5, none⟩) (by show w.heap.size < _; omega)).trans q5
    replace q6 := (hcE0.cell (p := ⟨w.heap.size, 6, none⟩) (by show w.heap.size < _; omega)).trans q6
    replace q7 := (hcE0.cell (p := ⟨w.heap.size, 7, none⟩) (by show w.heap.size < _; omega)).trans q7
    replace q8 := (hcE0.cell (p := ⟨w.heap.size, 8, none⟩) (by show w.heap.size < _; omega)).trans q8
    replace q9 := (hcE0.cell (p := ⟨w.heap.size, 9, none⟩) (by show w.heap.size < _; omega)).trans q9
    have hBWE : Below w.heap.size w E2 := hbE0.trans (hcE0.mono hbE0.size)
    clear hcE0 hcE1 hbE0 hbE1 hbE2
    clear hsE0 hsE1
    refine (wideC hF (h1 _ hBWE)).mono ?_
    rintro e w1 ⟨rfl, hb1⟩
    have hz1 := hb1.size
    replace q0 := (hb1.cell (p := ⟨w.heap.size, 0, none⟩) (by show w.heap.size < _; omega)).trans q0
    replace q1 := (hb1.cell (p := ⟨w.heap.size, 1, none⟩) (by show w.heap.size < _; omega)).trans q1
    replace q2 := (hb1.cell (p := ⟨w.heap.size, 2, none⟩) (by show w.heap.size < _; omega)).trans q2
    replace q3 := (hb1.cell (p := ⟨w.heap.size, 3, none⟩) (by show w.heap.size < _; omega)).trans q3
    replace q4 := (hb1.cell (p := ⟨w.heap.size, 4, none⟩) (by show w.heap.size < _; omega)).trans q4
    replace q5 := (hb1.cell (p := ⟨w.heap.size, 5, none⟩) (by show w.heap.size < _; omega)).trans q5
    replace q6 := (hb1.cell (p := ⟨w.heap.size, 6, none⟩) (by show w.heap.size < _; omega)).trans q6
    replace q7 := (hb1.cell (p := ⟨w.heap.size, 7, none⟩) (by show w.heap.size < _; omega)).trans q7
    replace q8 := (hb1.cell (p := ⟨w.heap.size, 8, none⟩) (by show w.heap.size < _; omega)).trans q8
    replace q9 := (hb1.cell (p := ⟨w.heap.size, 9, none⟩) (by show w.heap.size < _; omega)).trans q9
    replace s0 := (hb1.cell (p := ⟨w.heap.size + 1, 0, none⟩) (by show w.heap.size + 1 < _; omega)).trans s0
    replace s1 := (hb1.cell (p := ⟨w.heap.size + 1, 1, none⟩) (by show w.heap.size + 1 < _; omega)).trans s1
    replace u0 := (hb1.cell (p := ⟨w.heap.size + 1 + 1, 0, none⟩) (by show w.heap.size + 1 + 1 < _; omega)).trans u0
    replace v0 := (hb1.frozen (p := ⟨w.heap.size + 1 + 1, 0, none⟩) (by show w.heap.size + 1 + 1 < _; omega)).trans v0
    have hB1 : Below w.heap.size w w1 := bt' hBWE (Nat.le_refl _) hb1
    have hl0 : w.heap.size + 1 + 1 < w1.heap.size := by omega
    clear hb1 hBWE hsE2
    gi_wp2_with fail
    rw [hF.out]
    refine wpIn_wide.2 (wp_normal ?_)
    have hAll : Aside (∀ W, Below w1.heap.size w1 W → (Below w1.heap.size w1 W ∧ W.cell? ⟨w.heap.size, 0, none⟩ = some (.int .i64 r.frost) ∧ W.cell? ⟨w.heap.size, 1, none⟩ = some (.int .i64 r.thaw) ∧ W.cell? ⟨w.heap.size, 2, none⟩ = some (.int .i64 r.gain) ∧ W.cell? ⟨w.heap.size, 3, none⟩ = some (.int .i64 r.full) ∧ W.cell? ⟨w.heap.size, 4, none⟩ = some (.int .i64 r.ice) ∧ W.cell? ⟨w.heap.size, 5, none⟩ = some (.int .i64 r.most) ∧ W.cell? ⟨w.heap.size, 6, none⟩ = some (.int .i64 r.melt) ∧ W.cell? ⟨w.heap.size, 7, none⟩ = some (.int .i64 r.rlow) ∧ W.cell? ⟨w.heap.size, 8, none⟩ = some (.int .i64 r.rhigh) ∧ W.cell? ⟨w.heap.size, 9, none⟩ = some (.int .i64 r.pull) ∧ W.cell? ⟨w.heap.size + 1, 0, none⟩ = some (.int .i64 (c : Int)) ∧ W.cell? ⟨w.heap.size + 1, 1, none⟩ = some (.int .i64 (i : Int)))) := fun W h => ⟨h, (h.cell (p := ⟨w.heap.size, 0, none⟩) (by show w.heap.size < _; omega)).trans q0, (h.cell (p := ⟨w.heap.size, 1, none⟩) (by show w.heap.size < _; omega)).trans q1, (h.cell (p := ⟨w.heap.size, 2, none⟩) (by show w.heap.size < _; omega)).trans q2, (h.cell (p := ⟨w.heap.size, 3, none⟩) (by show w.heap.size < _; omega)).trans q3, (h.cell (p := ⟨w.heap.size, 4, none⟩) (by show w.heap.size < _; omega)).trans q4, (h.cell (p := ⟨w.heap.size, 5, none⟩) (by show w.heap.size < _; omega)).trans q5, (h.cell (p := ⟨w.heap.size, 6, none⟩) (by show w.heap.size < _; omega)).trans q6, (h.cell (p := ⟨w.heap.size, 7, none⟩) (by show w.heap.size < _; omega)).trans q7, (h.cell (p := ⟨w.heap.size, 8, none⟩) (by show w.heap.size < _; omega)).trans q8, (h.cell (p := ⟨w.heap.size, 9, none⟩) (by show w.heap.size < _; omega)).trans q9, (h.cell (p := ⟨w.heap.size + 1, 0, none⟩) (by show w.heap.size + 1 < _; omega)).trans s0, (h.cell (p := ⟨w.heap.size + 1, 1, none⟩) (by show w.heap.size + 1 < _; omega)).trans s1⟩
    refine wp_region_held_drew (S := fun W => Below w1.heap.size w1 W ∧ W.cell? ⟨w.heap.size, 0, none⟩ = some (.int .i64 r.frost) ∧ W.cell? ⟨w.heap.size, 1, none⟩ = some (.int .i64 r.thaw) ∧ W.cell? ⟨w.heap.size, 2, none⟩ = some (.int .i64 r.gain) ∧ W.cell? ⟨w.heap.size, 3, none⟩ = some (.int .i64 r.full) ∧ W.cell? ⟨w.heap.size, 4, none⟩ = some (.int .i64 r.ice) ∧ W.cell? ⟨w.heap.size, 5, none⟩ = some (.int .i64 r.most) ∧ W.cell? ⟨w.heap.size, 6, none⟩ = some (.int .i64 r.melt) ∧ W.cell? ⟨w.heap.size, 7, none⟩ = some (.int .i64 r.rlow) ∧ W.cell? ⟨w.heap.size, 8, none⟩ = some (.int .i64 r.rhigh) ∧ W.cell? ⟨w.heap.size, 9, none⟩ = some (.int .i64 r.pull) ∧ W.cell? ⟨w.heap.size + 1, 0, none⟩ = some (.int .i64 (c : Int)) ∧ W.cell? ⟨w.heap.size + 1, 1, none⟩ = some (.int .i64 (i : Int))) (by kernel_rfl) (hAll.out _ ((Below.refl _ _).drew)) (fun hS0 => ?_)
    refine wpAnyH_take (i := 0) (v := ?_) rfl (by kernel_rfl) (by kernel_rfl) (by kernel_rfl) (fun _ _ _ h => h) (Or.inl ⟨by rfl, ?_⟩) hS0 ?_
    rotate_left
    · (intro W hSw; (try dsimp only at hSw); go_split_ands; go_simp; (try with_reducible rfl))
    (try go_simp)
    refine wpAnyH_take (i := 1) (v := ?_) rfl (by kernel_rfl) (by kernel_rfl) (by kernel_rfl) (fun _ _ _ h => h) (Or.inl ⟨by rfl, ?_⟩) hS0 ?_
    rotate_left
    · (intro W hSw; (try dsimp only at hSw); go_split_ands; go_simp; (try with_reducible rfl))
    (try go_simp)
    refine wpAnyH_take (i := 2) (v := ?_) rfl (by kernel_rfl) (by kernel_rfl) (by kernel_rfl) (fun _ _ _ h => h) (Or.inl ⟨by rfl, ?_⟩) hS0 ?_
    rotate_left
    · (intro W hSw; (try dsimp only at hSw); go_split_ands; go_simp; (try with_reducible rfl))
    (try go_simp)
    refine wpAnyH_take (i := 4) (v := ?_) rfl (by kernel_rfl) (by kernel_rfl) (by kernel_rfl) (fun _ _ _ h => h) (Or.inl ⟨by rfl, ?_⟩) hS0 ?_
    rotate_left
    · (intro W hSw; (try dsimp only at hSw); go_split_ands; go_simp; (try with_reducible rfl))
    (try go_simp)
    refine wpAnyH_ready (rs := [3]) (by kernel_rfl) (by simp) ?_
    refine (AllReadyH.cons rfl (fun K hK => ?_) AllReadyH.nil)
    go_simp
    go_wp2_with (go_at_call 65; refine Calls.mono (hH _) ?_; rintro e w3 ⟨b3, rfl, hb3a, hb3b, hF3, hV3, hb3⟩)
    have hTw3 : Below w1.heap.size w1 w3 := bt' (show Below w1.heap.size w1 _ from (by repeat (first | (with_reducible assumption) | exact Below.refl _ _ | (with_reducible refine Below.alloc ?_ (by first | omega | (simp <;> omega)) _) | (with_reducible refine Below.setCell ?_ (by first | omega | (simp <;> omega)) _) | (with_reducible refine Below.drew ?_)))) (Nat.le_refl _) hb3
    have hsw3 := hTw3.size
    have hzw3 := hb3.size
    (try simp only [World.size_alloc, World.size_drew, World.size_setCell] at hzw3)
    refine hK.out _ _ (hAll.out _ hTw3) (fun hS1 => ?_)
    clear hK K
    (try go_simp)
    refine wpAnyH_ready (rs := [5]) (by kernel_rfl) (by simp) ?_
    refine (AllReadyH.cons rfl (fun K hK => ?_) AllReadyH.nil)
    go_simp
    go_wp2_with (go_at_call 64; refine Calls.mono (hT b3 _ _ 0 _ hb3b hF3 (one_rep _) hin0 (oneC_bd _) (HX.out.below (bt' hB1 (Nat.le_refl _) hTw3) (Nat.le_refl _)) (by omega)) ?_; rintro e w5 ⟨b5, G5, rfl, h5b, hF5, hR5, hb5⟩)
    have hTw5 : Below w1.heap.size w1 w5 := bt' (show Below w1.heap.size w1 _ from (by repeat (first | (with_reducible assumption) | exact Below.refl _ _ | (with_reducible refine Below.alloc ?_ (by first | omega | (simp <;> omega)) _) | (with_reducible refine Below.setCell ?_ (by first | omega | (simp <;> omega)) _) | (with_reducible refine Below.drew ?_)))) (Nat.le_refl _) hb5
    have hsw5 := hTw5.size
    have hzw5 := hb5.size
    (try simp only [World.size_alloc, World.size_drew, World.size_setCell] at hzw5)
    refine hK.out _ _ (hAll.out _ hTw5) (fun hS2 => ?_)
    clear hK K
    (try go_simp)
    refine wpAnyH_ready (rs := [6]) (by kernel_rfl) (by simp) ?_
    refine (AllReadyH.cons rfl (fun K hK => ?_) AllReadyH.nil)
    go_simp
    refine hK.out _ _ (hAll.out _ (by repeat (first | (with_reducible assumption) | exact Below.refl _ _ | (with_reducible refine Below.alloc ?_ (by first | omega | (simp <;> omega)) _) | (with_reducible refine Below.setCell ?_ (by first | omega | (simp <;> omega)) _) | (with_reducible refine Below.drew ?_)))) (fun hS3 => ?_)
    clear hK K
    (try go_simp)
    refine wpAnyH_done (by kernel_rfl) ?_ _
    (try go_simp)
    have hB5 : Below w.heap.size w w5 := bt' hB1 (Nat.le_refl _) hTw5
    have g5 : Below w1.heap.size w1 w5 := hTw5
    have u5 := (g5.cell (p := ⟨w.heap.size + 1 + 1, 0, none⟩) (by show w.heap.size + 1 + 1 < _; omega)).trans u0
    have v5 := (g5.frozen (p := ⟨w.heap.size + 1 + 1, 0, none⟩) (by show w.heap.size + 1 + 1 < _; omega)).trans v0
    have hz5' : w1.heap.size ≤ w5.heap.size := g5.size
    have hd1 : w1.drew.heap.size = w1.heap.size := rfl
    have hbb : w.heap.size + 1 + 1 ≠ b5 := by
      intro e
      have h := hF5 0 0 0 (by omega) (by omega) (by omega)
      rw [← e] at h
      have h2 := u5.symm.trans h
      cases hq : G5 (((0 : Nat) : Int), ((0 : Nat) : Int)) with
      | none => rw [hq] at h2; cases h2
      | some p => rw [hq] at h2; cases h2
    gi_wp2_with fail
    refine wpIn_range_allB hro (by omega) (gf := 68) (fs := #[.pointer (some ⟨b5, 0, none⟩)]) (lb := #[]) rfl (hFn _) (enters_of Try.func68 (by kernel_rfl) rfl)
      (states_givesB F (nn - 1) (hFn _) hro (by omega) b5 w5.heap.size (w.heap.size + 1 + 1) G5 w5 h5b hbb (by omega) (Nat.le_refl _) hF5) (Nat.le_refl _) (Below.refl _ _) (fun _ => rfl)
      (fun pre W => W.frozen? ⟨w.heap.size + 1 + 1, 0, none⟩ = false ∧ (∃ v, W.cell? ⟨w.heap.size + 1 + 1, 0, none⟩ = some v ∧ OwnK rngL 27 W w5.heap.size v (pre.map fun x => (⟨x.1.1, x.1.2⟩ : R))) ∧ Below w.heap.size w W)
      (fun s X Y row hs hg hrr => by
        obtain ⟨h1, ⟨v, h2, h3⟩, h4⟩ := hs
        have hk := blk_kept h2 hg (fun k e => (hrr k e).2)
        exact ⟨(World.frozen?_of_block (a := ⟨w.heap.size + 1 + 1, 0, none⟩) hk).trans h1, ⟨v, (World.cell?_of_block (a := ⟨w.heap.size + 1 + 1, 0, none⟩) hk).trans h2, h3.blk (fun k o hk hc => (grownBy_keeps_cells hg (fun r e => (hrr r e).2) hk hc).trans hk)⟩, h4.grown hg h4.size (fun k e => by have := (hrr k e).1; omega)⟩)
      ⟨v5, ⟨_, u5, OwnK.nil _ _ _ _⟩, hB5⟩ ?round ?done
    case round =>
      rintro l pre x W hsz ⟨hv, ⟨sv, hu, hO⟩, hB⟩ hpre
      obtain ⟨hGx, c', i', hc', hi', hx1⟩ := come_mem hpre
      obtain ⟨s, p1, p2⟩ := x
      simp only at hx1 hGx
      subst hx1
      have hlen2 : pre.length ≤ 1891 := by have := hpre.length_le; have := come_le G5 1891; simp at *; omega
      simp only [encS, cV, sV]
      gi_wp2
      refine ⟨(KeepsOthers.alloc _ _).from _, KB.of_below (by (try show Below _ _ _); repeat (first | (with_reducible refine Below.setCell ?_ (by first | omega | (simp <;> omega)) _) | (with_reducible refine Below.alloc ?_ (by first | omega | (simp <;> omega)) _) | (with_reducible refine Below.drew ?_) | (with_reducible exact Below.refl _ _) | (with_reducible refine below_call ?_ (by assumption) (by first | omega | (simp <;> omega))) | (with_reducible refine below_call ?_ (Drew.below (by assumption) _) (by first | omega | (simp <;> omega))))), ?_⟩
      intro W2 ht
      have hz2 : W.heap.size + 1 ≤ W2.heap.size := by have := ht.size; simp at this; omega
      have x0 := ht.cell ⟨W.heap.size, 0, none⟩ (.int .i64 (c' : Int)) (by simp [go_sem])
      have x1 := ht.cell ⟨W.heap.size, 1, none⟩ (.int .i64 (i' : Int)) (by simp [go_sem])
      have hu2 := ht.cell _ _ (al_cell (W := W) (.cells #[.int .i64 (c' : Int), .int .i64 (i' : Int)] 27) hu)
      have hv2 : W2.frozen? ⟨w.heap.size + 1 + 1, 0, none⟩ = false := (World.frozen?_of_block (a := ⟨w.heap.size + 1 + 1, 0, none⟩) ((ht.blk (al_cell (W := W) _ hu)).trans (Below.heap_alloc W _ _ (by omega)))).trans hv
      have hO2 : OwnK rngL 27 W2 w5.heap.size sv (pre.map fun x => (⟨x.1.1, x.1.2⟩ : R)) := (hO.alloc _).blk ht.blocks
      have hB2 : Below w.heap.size w W2 := (hB.alloc hB.size _).trans (ht.below.mono (by omega))
      clear ht hB hO hu hv
      obtain ⟨Av, cv, hvv, hvl, hvm, hvn, hvE⟩ := hO2.reads
      subst hvv
      obtain ⟨m, hm⟩ : ∃ m, (pre.map fun x => (⟨x.1.1, x.1.2⟩ : R)).length = m := ⟨_, rfl⟩
      rw [hm] at hO2 hvl hvn hu2
      have hmle : m ≤ 3000 := by rw [← hm]; simp; omega
      have Hm := Lib.hid hm
      have hO3 := hO2.alloc (.cells #[.int .i64 (c' : Int), .int .i64 (i' : Int)] 27)
      unfold OwnK at hO3
      rw [hm] at hO3
      have hne := hO2.lt
      have hbase : w5.heap.size ≤ (W2.alloc (.cells #[.int .i64 (c' : Int), .int .i64 (i' : Int)] 27)).heap.size := by rw [World.size_alloc]; omega
      have HN := Lib.hid (show (W2.alloc (.cells #[.int .i64 (c' : Int), .int .i64 (i' : Int)] 27)).cell? ⟨W2.heap.size, 0, none⟩ = some (.int .i64 (c' : Int)) ∧ (W2.alloc (.cells #[.int .i64 (c' : Int), .int .i64 (i' : Int)] 27)).cell? ⟨W2.heap.size, 1, none⟩ = some (.int .i64 (i' : Int)) by constructor <;> simp [go_sem])
      have hlt2 : w.heap.size + 1 + 1 < W2.heap.size := by omega
      have hlt3 : w.heap.size + 1 + 1 < (W2.alloc (.cells #[.int .i64 (c' : Int), .int .i64 (i' : Int)] 27)).heap.size := by rw [World.size_alloc]; omega
      have hnown : some (w.heap.size + 1 + 1) = (Value.slice Av m cv).ownBlock → False := fun e => by have := (hne _ e.symm).1; omega
      have hv3 := (((Below.refl W2.heap.size W2).alloc (Nat.le_refl _) (.cells #[.int .i64 (c' : Int), .int .i64 (i' : Int)] 27)).frozen (p := ⟨w.heap.size + 1 + 1, 0, none⟩) hlt2).trans hv2
      have hkeep := fun W' h => keeps_own (hO2.alloc (.cells #[.int .i64 (c' : Int), .int .i64 (i' : Int)] 27)) (W' := W') h w5.heap.size
      have Hkeep := Lib.hid hkeep
      clear hm hvE hkeep
      gi_wp2_with (gi_at_builtin; (refine wpListIn_append_own _ rfl _ _ 56 rfl w5.heap.size 27 i5 _ 2 16 Try.underlying56 hi5 hzi hsi hbi rfl (by decide) _ _ _ rfl hO3 ⟨W2.heap.size, 0, none⟩ 1 1 [.int .i64 (c' : Int), .int .i64 (i' : Int)] rfl rfl (news_two' HN.out.1 HN.out.2) (by simp [Value.oneCell']) (by unfold maxLen; omega) (by omega) hbase ?_); intro v' w9 hown' hgrow _; obtain ⟨g', cap', rfl⟩ := ownsRow_succ hown'; have hu9 := (hgrow.cell_far ⟨w.heap.size + 1 + 1, 0, none⟩ hlt3 (fun e => hnown e)).trans (al_cell _ hu2); have hv9 : w9.frozen? ⟨w.heap.size + 1 + 1, 0, none⟩ = false := (hgrow.frozen_far ⟨w.heap.size + 1 + 1, 0, none⟩ hlt3 (fun e => hnown e)).trans hv3)
      have hb9 : Below w5.heap.size W2 w9 := Below.grown ((Below.refl _ W2).alloc (by omega) _) hgrow (by simp; omega) (fun k e => (hne k e).1)
      have hz9 := hb9.size
      have hOs := OwnK.snoc (L := rngL) (x := (⟨(c' : Int), (i' : Int)⟩ : R)) hown' Hm.out
      refine ⟨?_, ?_, ?_, ⟨.slice (some ⟨g', 0, none⟩) (m + 1) cap', ?_, ?_⟩, ?_⟩
      · exact (((KeepsOthers.alloc W2 _).from _).trans (Hkeep.out _ hgrow)).trans ((KeepsOthers.setCell _ _ _).from _)
      · exact (KB.of_below (hb9)).trans (KB.of_grown (grown_set w9 _ _ _) (by omega))
      · exact (World.frozen?_setCells (w.heap.size + 1 + 1) [_] 0 w9 _).trans hv9
      · rw [cell_set, if_pos ⟨rfl, rfl⟩, hu9]; rfl
      · rw [List.map_append]
        exact hOs.grown (grown_set w9 (w.heap.size + 1 + 1) 0 _) (by omega)
      · exact (hB2.trans (hb9.mono (by omega))).grown (grown_set w9 (w.heap.size + 1 + 1) 0 _) (by omega) (fun k e => by cases e; omega)
    case done =>
      rintro D W hD ⟨hv, ⟨sv, hu, hO⟩, hB⟩ hK
      obtain ⟨Av, cv, hvv, hvl, hvm, hvn, hvE⟩ := hO.reads
      subst hvv
      have hl := hB.size
      gi_wp2
      have hK' := (KeepsOthers.setCell W ⟨w.heap.size + 1 + 1, 0, none⟩ (.slice Av (come G5 1891).length cv)).same D _ hK rfl
      have hlen : ((come G5 1891).map fun x => (⟨x.1.1, x.1.2⟩ : R)).length = (come G5 1891).length := List.length_map ..
      refine ⟨by simp, .inl ⟨_, _, rfl, run_takeDeferred hK', ?_⟩⟩
      have ht := Turn.putObj (B := D) (.deferred none) (Nat.le_refl D) hK' rfl
      have q0 := ht.cell ⟨w.heap.size + 1 + 1, 0, none⟩ (.slice Av (come G5 1891).length cv) (by rw [cell_set, if_pos ⟨rfl, rfl⟩, hu]; rfl)
      have hO2 := (hO.grown (grown_set W (w.heap.size + 1 + 1) 0 (.slice Av (come G5 1891).length cv)) (by omega)).blk ht.blocks
      have hB2 : Below w.heap.size w _ := (hB.grown (grown_set W (w.heap.size + 1 + 1) 0 (.slice Av (come G5 1891).length cv)) hl (fun k e => by cases e; omega)).trans (ht.below.mono (by omega))
      refine ⟨.tuple #[.slice Av (come G5 1891).length cv, .int .i64 0], by simp [results, Try.results30, go_sem, q0], ?_⟩
      exact ⟨Av, _, cv, endsR G5 1891, rfl, by unfold endsR; rw [List.length_map], by rw [← hlen]; exact hvl, hvm, (rngL_at.1 (OwnK.reads_slice hO2)).mono (by omega), fun h => absurd rfl h, fun _ => ⟨G5, hR5, rfl⟩, hB2⟩
  · rw [hrv] at h1 ⊢
    generalize errT r c i ts = er at h0 h1
    have h0' : (er == 0) = false := by simpa using h0
    clear hx hrv
    go_enter Try.func30, Try.ntmps30
    go_wp2_with fail
    obtain ⟨E0, hNE0⟩ : ∃ X, X = w.alloc (.cells #[.int .i64 r.frost, .int .i64 r.thaw, .int .i64 r.gain, .int .i64 r.full, .int .i64 r.ice, .int .i64 r.most, .int .i64 r.melt, .int .i64 r.rlow, .int .i64 r.rhigh, .int .i64 r.pull] 25) := ⟨_, rfl⟩
    have hsE0 : E0.heap.size = w.heap.size + 1 := by rw [hNE0]; simp
    have hbE0 : Below w.heap.size w E0 := by rw [hNE0]; exact (Below.refl _ _).alloc (Nat.le_refl _) _
    have q0 : E0.cell? ⟨w.heap.size, 0, none⟩ = some (.int .i64 r.frost) := by rw [hNE0]; simp [go_sem]
    have q1 : E0.cell? ⟨w.heap.size, 1, none⟩ = some (.int .i64 r.thaw) := by rw [hNE0]; simp [go_sem]
    have q2 : E0.cell? ⟨w.heap.size, 2, none⟩ = some (.int .i64 r.gain) := by rw [hNE0]; simp [go_sem]
    have q3 : E0.cell? ⟨w.heap.size, 3, none⟩ = some (.int .i64 r.full) := by rw [hNE0]; simp [go_sem]
    have q4 : E0.cell? ⟨w.heap.size, 4, none⟩ = some (.int .i64 r.ice) := by rw [hNE0]; simp [go_sem]
    have q5 : E0.cell? ⟨w.heap.size, 5, none⟩ = some (.int .i64 r.most) := by rw [hNE0]; simp [go_sem]
    have q6 : E0.cell? ⟨w.heap.size, 6, none⟩ = some (.int .i64 r.melt) := by rw [hNE0]; simp [go_sem]
    have q7 : E0.cell? ⟨w.heap.size, 7, none⟩ = some (.int .i64 r.rlow) := by rw [hNE0]; simp [go_sem]
    have q8 : E0.cell? ⟨w.heap.size, 8, none⟩ = some (.int .i64 r.rhigh) := by rw [hNE0]; simp [go_sem]
    have q9 : E0.cell? ⟨w.heap.size, 9, none⟩ = some (.int .i64 r.pull) := by rw [hNE0]; simp [go_sem]
    rw [← hNE0]
    clear hNE0
    obtain ⟨E1, hNE1⟩ : ∃ X, X = E0.alloc (.cells #[.int .i64 c, .int .i64 i] 27) := ⟨_, rfl⟩
    have hsE1 : E1.heap.size = w.heap.size + 1 + 1 := by rw [hNE1]; simp; omega
    have hbE1 : Below E0.heap.size E0 E1 := by rw [hNE1]; exact (Below.refl _ _).alloc (Nat.le_refl _) _
    have s0 : E1.cell? ⟨w.heap.size + 1, 0, none⟩ = some (.int .i64 c) := by rw [hNE1, ← hsE0]; simp [go_sem]
    have s1 : E1.cell? ⟨w.heap.size + 1, 1, none⟩ = some (.int .i64 i) := by rw [hNE1, ← hsE0]; simp [go_sem]
    rw [← hNE1]
    clear hNE1
    obtain ⟨E2, hNE2⟩ : ∃ X, X = E1.alloc (.cells #[.slice none 0 0] 56) := ⟨_, rfl⟩
    have hsE2 : E2.heap.size = w.heap.size + 1 + 1 + 1 := by rw [hNE2]; simp; omega
    have hbE2 : Below E1.heap.size E1 E2 := by rw [hNE2]; exact (Below.refl _ _).alloc (Nat.le_refl _) _
    have u0 : E2.cell? ⟨w.heap.size + 1 + 1, 0, none⟩ = some (.slice none 0 0) := by rw [hNE2, ← hsE1]; simp [go_sem]
    have v0 : E2.frozen? ⟨w.heap.size + 1 + 1, 0, none⟩ = false := by rw [hNE2, ← hsE1]; simp [go_sem]
    rw [← hNE2]
    clear hNE2
    have hcE1 : Below E1.heap.size E1 E2 := hbE2
    replace s0 := (hcE1.cell (p := ⟨w.heap.size + 1, 0, none⟩) (by show w.heap.size + 1 < _; omega)).trans s0
    replace s1 := (hcE1.cell (p := ⟨w.heap.size + 1, 1, none⟩) (by show w.heap.size + 1 < _; omega)).trans s1
    have hcE0 : Below E0.heap.size E0 E2 := hbE1.trans (hcE1.mono hbE1.size)
    replace q0 := (hcE0.cell (p := ⟨w.heap.size, 0, none⟩) (by show w.heap.size < _; omega)).trans q0
    replace q1 := (hcE0.cell (p := ⟨w.heap.size, 1, none⟩) (by show w.heap.size < _; omega)).trans q1
    replace q2 := (hcE0.cell (p := ⟨w.heap.size, 2, none⟩) (by show w.heap.size < _; omega)).trans q2
    replace q3 := (hcE0.cell (p := ⟨w.heap.size, 3, none⟩) (by show w.heap.size < _; omega)).trans q3
    replace q4 := (hcE0.cell (p := ⟨w.heap.size, 4, none⟩) (by show w.heap.size < _; omega)).trans q4
    replace q5 := (hcE0.cell (p := ⟨w.heap.size, 5, none⟩) (by show w.heap.size < _; omega)).trans q5
    replace q6 := (hcE0.cell (p := ⟨w.heap.size, 6, none⟩) (by show w.heap.size < _; omega)).trans q6
    replace q7 := (hcE0.cell (p := ⟨w.heap.size, 7, none⟩) (by show w.heap.size < _; omega)).trans q7
    replace q8 := (hcE0.cell (p := ⟨w.heap.size, 8, none⟩) (by show w.heap.size < _; omega)).trans q8
    replace q9 := (hcE0.cell (p := ⟨w.heap.size, 9, none⟩) (by show w.heap.size < _; omega)).trans q9
    have hBWE : Below w.heap.size w E2 := hbE0.trans (hcE0.mono hbE0.size)
    clear hcE0 hcE1 hbE0 hbE1 hbE2
    clear hsE0 hsE1
    refine Calls.mono (h1 _ hBWE) ?_
    rintro e w1 ⟨rfl, hb1⟩
    have hz1 := hb1.size
    replace q0 := (hb1.cell (p := ⟨w.heap.size, 0, none⟩) (by show w.heap.size < _; omega)).trans q0
    replace q1 := (hb1.cell (p := ⟨w.heap.size, 1, none⟩) (by show w.heap.size < _; omega)).trans q1
    replace q2 := (hb1.cell (p := ⟨w.heap.size, 2, none⟩) (by show w.heap.size < _; omega)).trans q2
    replace q3 := (hb1.cell (p := ⟨w.heap.size, 3, none⟩) (by show w.heap.size < _; omega)).trans q3
    replace q4 := (hb1.cell (p := ⟨w.heap.size, 4, none⟩) (by show w.heap.size < _; omega)).trans q4
    replace q5 := (hb1.cell (p := ⟨w.heap.size, 5, none⟩) (by show w.heap.size < _; omega)).trans q5
    replace q6 := (hb1.cell (p := ⟨w.heap.size, 6, none⟩) (by show w.heap.size < _; omega)).trans q6
    replace q7 := (hb1.cell (p := ⟨w.heap.size, 7, none⟩) (by show w.heap.size < _; omega)).trans q7
    replace q8 := (hb1.cell (p := ⟨w.heap.size, 8, none⟩) (by show w.heap.size < _; omega)).trans q8
    replace q9 := (hb1.cell (p := ⟨w.heap.size, 9, none⟩) (by show w.heap.size < _; omega)).trans q9
    replace s0 := (hb1.cell (p := ⟨w.heap.size + 1, 0, none⟩) (by show w.heap.size + 1 < _; omega)).trans s0
    replace s1 := (hb1.cell (p := ⟨w.heap.size + 1, 1, none⟩) (by show w.heap.size + 1 < _; omega)).trans s1
    replace u0 := (hb1.cell (p := ⟨w.heap.size + 1 + 1, 0, none⟩) (by show w.heap.size + 1 + 1 < _; omega)).trans u0
    replace v0 := (hb1.frozen (p := ⟨w.heap.size + 1 + 1, 0, none⟩) (by show w.heap.size + 1 + 1 < _; omega)).trans v0
    have hB1 : Below w.heap.size w w1 := bt' hBWE (Nat.le_refl _) hb1
    have hl0 : w.heap.size + 1 + 1 < w1.heap.size := by omega
    clear hb1 hBWE hsE2
    go_wp2
    refine bodyPost_ret (v := .tuple #[.slice none 0 0, .int .i64 er]) (by simp [results, Try.results30, go_sem, u0, v0, hl0]) rfl ⟨none, 0, 0, [], rfl, rfl, Nat.le_refl _, Nat.zero_le _, fun h => absurd h (by simp), fun _ => rfl, fun h => absurd h h0, (by (try show Below _ _ _); repeat (first | (with_reducible refine Below.setCell ?_ (by first | omega | (simp <;> omega)) _) | (with_reducible refine Below.alloc ?_ (by first | omega | (simp <;> omega)) _) | (with_reducible refine Below.drew ?_) | (with_reducible exact Below.refl _ _) | (with_reducible exact hB1) | (with_reducible refine below_call ?_ (by assumption) (by first | omega | (simp <;> omega))) | (with_reducible refine below_call ?_ (Drew.below (by assumption) _) (by first | omega | (simp <;> omega)))))⟩

end Go.Proofs.Ytlkecgjpmnganaa
