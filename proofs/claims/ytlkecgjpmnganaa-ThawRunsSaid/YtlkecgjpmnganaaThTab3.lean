/- Contracts: the reference's Ends; the least and greatest of a table. -/
import Derived.Test.YtlkecgjpmnganaaThTab2
import Derived.Test.YtlkecgjpmnganaaThGives
set_option linter.unusedSimpArgs false
set_option linter.unusedVariables false
namespace Go.Proofs.Ytlkecgjpmnganaa
open Go.RowKit Go.Shelf

theorem sumJ_rep {C : Cs} {F : Fl} (h : Rep F C) : ∀ J, Rep1 (sumJ F J) (fun n => ∃ j, j < J ∧ C (((j / 31 : Nat) : Int), ((j % 31 : Nat) : Int)) n)
  | 0 => fun n => by rintro ⟨j, hj, _⟩; omega
  | J + 1 => ((sumJ_rep h J).with (h _)).congr fun n => by
    constructor
    · rintro (⟨j, hj, hc⟩ | hc)
      · exact ⟨j, by omega, hc⟩
      · exact ⟨J, by omega, hc⟩
    · rintro ⟨j, hj, hc⟩
      by_cases e : j < J
      · exact Or.inl ⟨j, e, hc⟩
      · obtain rfl : j = J := by omega
        exact Or.inr hc
set_option maxRecDepth 100000 in
theorem all_any_rep {r : TR} (hr : TROk r) {C : Cs} {F : Fl} (h : Rep F C) (hin : CIn r C) : Rep1 (sumJ F 1891) (anyC C) := by
  refine (sumJ_rep h 1891).congr fun n => ?_
  constructor
  · rintro ⟨j, _, hc⟩
    exact ⟨_, hc⟩
  · rintro ⟨s, hc⟩
    obtain ⟨c, i, h1, h2, rfl⟩ := in_nat hr (hin s n hc)
    refine ⟨c * 31 + i, by omega, ?_⟩
    have e1 : (c * 31 + i) / 31 = c := by omega
    have e2 : (c * 31 + i) % 31 = i := by omega
    rw [e1, e2]
    exact hc
theorem okO_rep {C : Cs} {F : Fl} (h : Rep F C) (hb : ∀ s n, C s n → 0 ≤ n ∧ n ≤ 100000) : ∀ s, okO (F s) := by
  intro s p hp
  have h1 := h s
  rw [hp] at h1
  have a := hb s _ h1.1
  have b := hb s _ h1.2.1
  have := h1.le
  omega

/-- the states that are there -/
def endsR (F : Fl) (k : Nat) : List R := (come F k).map fun x => ⟨x.1.1, x.1.2⟩
theorem endsR_none (F : Fl) (c i : Nat) (hi : i < 31) (h : F ((c : Int), (i : Int)) = none) : endsR F (c * 31 + i + 1) = endsR F (c * 31 + i) := by unfold endsR; rw [come_none F c i hi h]
theorem endsR_some (F : Fl) (c i : Nat) (hi : i < 31) {p : Int × Int} (h : F ((c : Int), (i : Int)) = some p) : endsR F (c * 31 + i + 1) = endsR F (c * 31 + i) ++ [⟨(c : Int), (i : Int)⟩] := by unfold endsR; rw [come_some F c i hi p h, List.map_append]; rfl
theorem endsR_le (F : Fl) (k : Nat) : (endsR F k).length ≤ k := by unfold endsR; rw [List.length_map]; exact come_le F k

/-- a list of states, or of ranges, of one's own is returned -/
def ListPost (w : World) (xs : List R) (e : Ending) (w' : World) : Prop := ∃ A n c, e = .returned (.slice A n c) ∧ xs.length = n ∧ n ≤ c ∧ c ≤ maxLen ∧ Ranges w' w.heap.size A xs ∧ Below w.heap.size w w'

set_option maxRecDepth 100000 in
set_option maxHeartbeats 1000000 in
theorem refEnds_any (F : Fl) (hF : Aside (∀ s, okO (F s))) (w : World) :
    Calls Try.prog 36 #[tabV F] w (ListPost w (endsR F 1891)) := by
  obtain ⟨i5, hi5, hz5, hs5, hb5⟩ := info_parts (show (Try.prog.info? 27).map (fun i => (i.zero, i.size, i.bytes)) = some (some (.agg #[.int .i64 0, .int .i64 0]), 2, 16) by kernel_rfl)
  unfold tabV
  obtain ⟨T, hT⟩ : ∃ T, rawF F = T := ⟨_, rfl⟩
  have r0 : Aside (∀ s, pk (T s) 0 = loR (F s)) := fun s => by rw [← hT]; exact rawF_0 F s
  rw [hT]
  clear hT
  go_enter Try.func36, Try.ntmps36
  go_wp2_with fail
  obtain ⟨W1, hW1⟩ : ∃ W1, W1 = w.alloc (.cells (tabA T) 63) := ⟨_, rfl⟩
  have hz1 : W1.heap.size = w.heap.size + 1 := by rw [hW1]; simp
  have hTW : Tab W1 w.heap.size T := by rw [hW1]; exact Tab.new _ _ _ _
  have hBW : Below w.heap.size w W1 := by rw [hW1]; exact (by (try show Below _ _ _); repeat (first | (with_reducible refine Below.setCell ?_ (by first | omega | (simp <;> omega)) _) | (with_reducible refine Below.alloc ?_ (by first | omega | (simp <;> omega)) _) | (with_reducible refine Below.drew ?_) | (with_reducible exact Below.refl _ _) | (with_reducible refine below_call ?_ (by assumption) (by first | omega | (simp <;> omega))) | (with_reducible refine below_call ?_ (Drew.below (by assumption) _) (by first | omega | (simp <;> omega)))))
  rw [← hW1, ← hz1]
  have hl1 : w.heap.size < W1.heap.size := by omega
  clear hW1 hz1
  go_loopg [3, 4] (61) (fun gg v c wr => ∃ k : Nat, k ≤ 61 ∧ 61 - k ≤ gg ∧ c = .int .i64 k ∧ Aside (OwnK rngL 27 wr W1.heap.size v (endsR F (k * 31))) ∧ Aside (Below W1.heap.size W1 wr))
  case atStart => exact ⟨0, by omega, by omega, rfl, ownsRow_emptyK W1 27 2, (by (try show Below _ _ _); repeat (first | (with_reducible refine Below.setCell ?_ (by first | omega | (simp <;> omega)) _) | (with_reducible refine Below.alloc ?_ (by first | omega | (simp <;> omega)) _) | (with_reducible refine Below.drew ?_) | (with_reducible exact Below.refl _ _) | (with_reducible refine below_call ?_ (by assumption) (by first | omega | (simp <;> omega))) | (with_reducible refine below_call ?_ (Drew.below (by assumption) _) (by first | omega | (simp <;> omega)))))⟩
  case round =>
    obtain ⟨k, hk, hg, rfl, hO, hB⟩ := hrel
    by_cases hlt : k ≤ 60
    · have hltz : (k : Int) ≤ 60 := by omega
      have hk0 : (0 : Int) ≤ (k : Int) := Int.natCast_nonneg _
      have hk6 : (k : Int) < 61 := by omega
      obtain ⟨W2, hW2⟩ : ∃ W2, W2 = wr := ⟨_, rfl⟩
      subst hW2
      go_wp2_with fail
      go_loopg [3, 5] (31) (fun gg v c wr => ∃ i : Nat, i ≤ 31 ∧ 31 - i ≤ gg ∧ c = .int .i64 i ∧ Aside (OwnK rngL 27 wr W1.heap.size v (endsR F (k * 31 + i))) ∧ Aside (Below W1.heap.size W2 wr) ∧ Aside (W1.heap.size ≤ wr.heap.size))
      case atStart => exact ⟨0, by omega, by omega, rfl, hO, Below.refl _ _, hB.out.size⟩
      case round =>
        obtain ⟨i, hi, hgi, rfl, hOi, hBi, hsz⟩ := hrel
        obtain ⟨Av, cv, hv, hvl, hvm, hvn, hvE⟩ := hOi.out.reads
        subst hv
        obtain ⟨m, hm⟩ : ∃ m, (endsR F (k * 31 + i)).length = m := ⟨_, rfl⟩
        rw [hm] at hOi hvl hvn ⊢
        have hmle : m ≤ 3000 := by rw [← hm]; have := endsR_le F (k * 31 + i); omega
        have Hm := Lib.hid hm
        clear hm hvE
        by_cases hlti : i ≤ 30
        · have hltiz : (i : Int) ≤ 30 := by omega
          have hi0 : (0 : Int) ≤ (i : Int) := Int.natCast_nonneg _
          have hi6 : (i : Int) < 31 := by omega
          have hBx := hB.out.trans hBi.out
          have e0 := hTW.below hBx (by omega) k i 0 (by omega) (by omega) (by omega)
          rw [r0.out, Nat.add_zero] at e0
          have ho2 := hF.out ((k : Int), (i : Int))
          have hn0 : F ((k : Int), (i : Int)) = none → endsR F (k * 31 + (i + 1)) = endsR F (k * 31 + i) := fun h => endsR_none F k i (by omega) h
          have hn1 : ∀ p, F ((k : Int), (i : Int)) = some p → endsR F (k * 31 + (i + 1)) = endsR F (k * 31 + i) ++ [⟨(k : Int), (i : Int)⟩] := fun p h => endsR_some F k i (by omega) h
          generalize F ((k : Int), (i : Int)) = x at ho2 hn0 hn1 e0
          rcases x with _ | ⟨a, b⟩
          · simp only [loR] at e0
            have Hn := Lib.hid (hn0 rfl)
            clear hn0 hn1
            have hh : ¬ (0 : Int) < 0 := by omega
            go_wp2
            go_roundg (31 - (i + 1))
            case measure => omega
            case rel => exact ⟨i + 1, by omega, by omega, by go_num, by rw [Hn.out]; exact hOi, hBi, hsz⟩
          · simp only [loR] at e0
            have Hn := Lib.hid (hn1 _ rfl)
            clear hn0 hn1
            have hx := ho2 (a, b) rfl
            simp only at hx
            have hh : (0 : Int) < a + 1 := by omega
            have hne := hOi.out.lt
            have hsz' := hsz.out
            have hO6 := hOi.out.alloc (.cells #[.int .i64 (k : Int), .int .i64 (i : Int)] 27)
            unfold OwnK at hO6
            have hO7 : World.ownsRow (wr.alloc (.cells #[.int .i64 (k : Int), .int .i64 (i : Int)] 27)) W1.heap.size 27 2 (.slice Av m cv) m ((endsR F (k * 31 + i)).flatMap rngL.cs) := by have := hO6; rw [Hm.out] at this; exact this
            clear hO6
            go_wp2_with (at_builtin; go_loud (refine wpList_append_lies _ rfl _ _ _ (by rfl) W1.heap.size 27 i5 _ 2 16 Try.underlying56 hi5 hz5 hs5 hb5 rfl (by omega) (.slice Av m cv) m ((endsR F (k * 31 + i)).flatMap rngL.cs) (by rfl) hO7 ⟨wr.heap.size, 0, none⟩ 1 1 [.int .i64 (k : Int), .int .i64 (i : Int)] (by rfl) (by rfl) (news_two' (by simp [go_sem]) (by simp [go_sem])) (by simp [Value.oneCell']) (by omega) (by simp only [maxLen]; omega) (by omega) (by simp; omega) (wr.heap.size + 1) (by simp) ?_); intro g5 c5 w5 o5 hgrow hat5 hlt5)
            have hb5w : Below W1.heap.size wr w5 := Below.grown ((Below.refl _ wr).alloc (by omega) _) hgrow (by simp; omega) (fun k e => (hne k e).1)
            go_wp2
            go_roundg (31 - (i + 1))
            case measure => omega
            case rel =>
              refine ⟨i + 1, by omega, by omega, by go_num, ?_, hBi.out.trans hb5w, ?_⟩
              · rw [Hn.out]
                exact OwnK.snoc (L := rngL) o5 Hm.out
              · have := hb5w.size; unfold Aside; omega
        · have hltiz : ¬ (i : Int) ≤ 30 := by omega
          obtain rfl : i = 31 := by omega
          go_wp2
          go_roundg (61 - (k + 1))
          case measure => omega
          case rel => exact ⟨k + 1, by omega, by omega, by go_num, by rw [show (k + 1) * 31 = k * 31 + 31 by omega]; exact hOi, hB.out.trans hBi.out⟩
    · have hltz : ¬ (k : Int) ≤ 60 := by omega
      obtain rfl : k = 61 := by omega
      obtain ⟨Av, cv, hv, hvl, hvm, hvn, hvE⟩ := hO.out.reads
      subst hv
      have hBw := hBW.trans (hB.out.mono hBW.size)
      go_wp2
      go_ret
      exact ⟨Av, _, cv, rfl, rfl, hvl, hvm, (rngL_at.1 hvE).mono (by omega), hBw⟩

end Go.Proofs.Ytlkecgjpmnganaa
