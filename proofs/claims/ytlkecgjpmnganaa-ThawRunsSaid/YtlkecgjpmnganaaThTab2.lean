/- Contracts: the reference's All. -/
import Derived.Test.YtlkecgjpmnganaaThTab
import Derived.Test.YtlkecgjpmnganaaMM
set_option linter.unusedSimpArgs false
set_option linter.unusedVariables false
namespace Go.Proofs.Ytlkecgjpmnganaa
open Go.RowKit Go.Shelf

/-- the counts of the first states together -/
def sumJ (F : Fl) : Nat → Option (Int × Int)
  | 0 => none
  | j + 1 => withC (sumJ F j) (F (((j / 31 : Nat) : Int), ((j % 31 : Nat) : Int)))
def loR : Option (Int × Int) → Int
  | none => 0
  | some p => p.1 + 1
def hiR : Option (Int × Int) → Int
  | none => 0
  | some p => p.2 + 1
theorem rawF_0 (F : Fl) (s : St) : pk (rawF F s) 0 = loR (F s) := by unfold rawF; cases F s <;> rfl
theorem rawF_1 (F : Fl) (s : St) : pk (rawF F s) 1 = hiR (F s) := by unfold rawF; cases F s <;> rfl
/-- small numbers -/
def okO (o : Option (Int × Int)) : Prop := ∀ p, o = some p → 0 ≤ p.1 ∧ p.1 ≤ p.2 ∧ p.2 ≤ 100000
theorem okO.with {o o' : Option (Int × Int)} (h : okO o) (h' : okO o') : okO (withC o o') := by
  cases o with
  | none => exact h'
  | some p =>
    cases o' with
    | none => exact h
    | some q =>
      intro r hr
      have h1 := h p rfl
      have h2 := h' q rfl
      obtain rfl := Option.some.inj hr
      dsimp only
      omega
theorem sumJ_ok {F : Fl} (h : ∀ s, okO (F s)) : ∀ j, okO (sumJ F j)
  | 0 => fun p e => by cases e
  | j + 1 => (sumJ_ok h j).with (h _)

def rgO (o : Option (Int × Int)) : Value := .agg #[.int .i64 (match o with | none => 0 | some p => p.1), .int .i64 (match o with | none => 0 | some p => p.2)]

set_option maxRecDepth 100000 in
set_option maxHeartbeats 1000000 in
theorem refAll_any (F : Fl) (hF : Aside (∀ s, okO (F s))) (w : World) :
    Calls Try.prog 34 #[tabV F] w fun e w' => e = .returned (.tuple #[rgO (sumJ F 1891), .bool (sumJ F 1891).isSome]) ∧ Below w.heap.size w w' := by
  unfold tabV
  obtain ⟨T, hT⟩ : ∃ T, rawF F = T := ⟨_, rfl⟩
  have r0 : Aside (∀ s, pk (T s) 0 = loR (F s)) := fun s => by rw [← hT]; exact rawF_0 F s
  have r1 : Aside (∀ s, pk (T s) 1 = hiR (F s)) := fun s => by rw [← hT]; exact rawF_1 F s
  rw [hT]
  clear hT
  obtain ⟨O, hO⟩ : ∃ O, sumJ F 1891 = O := ⟨_, rfl⟩
  rw [hO]
  have HO : Aside (sumJ F 1891 = O) := hO
  clear hO
  go_enter Try.func34, Try.ntmps34
  go_wp2_with fail
  obtain ⟨W0, hW0⟩ : ∃ W0, W0 = w.alloc (.cells (tabA T) 63) := ⟨_, rfl⟩
  have hz0 : W0.heap.size = w.heap.size + 1 := by rw [hW0]; simp
  have hT0 : Tab W0 w.heap.size T := by rw [hW0]; exact Tab.new _ _ _ _
  have hB0 : Below w.heap.size w W0 := by rw [hW0]; exact (by (try show Below _ _ _); repeat (first | (with_reducible refine Below.setCell ?_ (by first | omega | (simp <;> omega)) _) | (with_reducible refine Below.alloc ?_ (by first | omega | (simp <;> omega)) _) | (with_reducible refine Below.drew ?_) | (with_reducible exact Below.refl _ _) | (with_reducible refine below_call ?_ (by assumption) (by first | omega | (simp <;> omega))) | (with_reducible refine below_call ?_ (Drew.below (by assumption) _) (by first | omega | (simp <;> omega)))))
  rw [← hW0]
  clear hW0
  obtain ⟨W1, hW1⟩ : ∃ W1, W1 = W0.alloc (.cells #[.int .i64 0, .int .i64 0] 23) := ⟨_, rfl⟩
  have hz1 : W1.heap.size = w.heap.size + 2 := by rw [hW1]; simp; omega
  have t0 : W1.cell? ⟨w.heap.size + 1, 0, none⟩ = some (.int .i64 0) := by rw [hW1, ← hz0]; simp [go_sem]
  have t1 : W1.cell? ⟨w.heap.size + 1, 1, none⟩ = some (.int .i64 0) := by rw [hW1, ← hz0]; simp [go_sem]
  have f0 : W1.frozen? ⟨w.heap.size + 1, 0, none⟩ = false := by rw [hW1, ← hz0]; simp [go_sem]
  have f1 : W1.frozen? ⟨w.heap.size + 1, 1, none⟩ = false := by rw [hW1, ← hz0]; simp [go_sem]
  have hB1 : Below W0.heap.size W0 W1 := by rw [hW1]; exact (by (try show Below _ _ _); repeat (first | (with_reducible refine Below.setCell ?_ (by first | omega | (simp <;> omega)) _) | (with_reducible refine Below.alloc ?_ (by first | omega | (simp <;> omega)) _) | (with_reducible refine Below.drew ?_) | (with_reducible exact Below.refl _ _) | (with_reducible refine below_call ?_ (by assumption) (by first | omega | (simp <;> omega))) | (with_reducible refine below_call ?_ (Drew.below (by assumption) _) (by first | omega | (simp <;> omega)))))
  rw [← hW1]
  clear hW1
  have hTW := hT0.below hB1 (by omega)
  have hBW : Below w.heap.size w W1 := hB0.trans (hB1.mono (by omega))
  go_loopg [4, 5, 6] (61) (fun gg l h c wr => ∃ k : Nat, k ≤ 61 ∧ 61 - k ≤ gg ∧ c = .int .i64 k ∧ l = .int .i64 (loR (sumJ F (k * 31))) ∧ h = .int .i64 (hiR (sumJ F (k * 31))) ∧ Aside (Below W1.heap.size W1 wr))
  case atStart => exact ⟨0, by omega, by omega, rfl, rfl, rfl, Below.refl _ _⟩
  case round =>
    obtain ⟨k, hk, hg, rfl, rfl, rfl, hB⟩ := hrel
    by_cases hlt : k ≤ 60
    · have hltz : (k : Int) ≤ 60 := by omega
      have hk0 : (0 : Int) ≤ (k : Int) := Int.natCast_nonneg _
      have hk6 : (k : Int) < 61 := by omega
      obtain ⟨W2, hW2⟩ : ∃ W2, W2 = wr := ⟨_, rfl⟩
      subst hW2
      go_wp2_with fail
      go_loopg [4, 5, 7] (31) (fun gg l h c wr => ∃ i : Nat, i ≤ 31 ∧ 31 - i ≤ gg ∧ c = .int .i64 i ∧ l = .int .i64 (loR (sumJ F (k * 31 + i))) ∧ h = .int .i64 (hiR (sumJ F (k * 31 + i))) ∧ Aside (Below W2.heap.size W2 wr))
      case atStart => exact ⟨0, by omega, by omega, rfl, rfl, rfl, Below.refl _ _⟩
      case round =>
        obtain ⟨i, hi, hgi, rfl, rfl, rfl, hBi⟩ := hrel
        by_cases hlti : i ≤ 30
        · have hltiz : (i : Int) ≤ 30 := by omega
          have hi0 : (0 : Int) ≤ (i : Int) := Int.natCast_nonneg _
          have hi6 : (i : Int) < 31 := by omega
          have hBx := hB.out.trans (hBi.out.mono hB.out.size)
          have e0 := hTW.below hBx (by omega) k i 0 (by omega) (by omega) (by omega)
          have e1 := hTW.below hBx (by omega) k i 1 (by omega) (by omega) (by omega)
          rw [r0.out, Nat.add_zero] at e0
          rw [r1.out] at e1
          have hsn : sumJ F (k * 31 + (i + 1)) = withC (sumJ F (k * 31 + i)) (F ((k : Int), (i : Int))) := by
            have h1 : (k * 31 + i) / 31 = k := by omega
            have h2 : (k * 31 + i) % 31 = i := by omega
            have h3 : sumJ F (k * 31 + i + 1) = withC (sumJ F (k * 31 + i)) (F ((((k * 31 + i) / 31 : Nat) : Int), (((k * 31 + i) % 31 : Nat) : Int))) := rfl
            rw [h1, h2] at h3
            exact h3
          have ho1 := sumJ_ok hF.out (k * 31 + i)
          have ho2 := hF.out ((k : Int), (i : Int))
          have hsn' : Aside (sumJ F (k * 31 + (i + 1)) = withC (sumJ F (k * 31 + i)) (F ((k : Int), (i : Int)))) := hsn
          clear hsn
          generalize sumJ F (k * 31 + i) = o at ho1 hsn' ⊢
          generalize F ((k : Int), (i : Int)) = x at ho2 hsn' e0 e1
          rcases x with _ | ⟨a, b⟩
          · simp only [loR, hiR] at e0 e1
            have hh : ¬ (0 : Int) > 0 := by omega
            have hm : max (hiR o) 0 = hiR o := by
              cases o with
              | none => rfl
              | some p => have := ho1 p rfl; show max (p.2 + 1) 0 = p.2 + 1; omega
            have hwi : ∀ o : Option (Int × Int), withC o none = o := fun o => by cases o <;> rfl
            go_wp2
            go_roundg (31 - (i + 1))
            case measure => omega
            case rel => exact ⟨i + 1, by omega, by omega, by go_num, by rw [hsn'.out]; exact congrArg (Value.int .i64) (by show loR o = loR (withC o none); rw [hwi]), by rw [hsn'.out]; exact congrArg (Value.int .i64) (by show _ = hiR (withC o none); rw [hwi]), hBi.out.trans (((Below.refl _ _).alloc (Nat.le_refl _) _).mono hBi.out.size)⟩
          · simp only [loR, hiR] at e0 e1
            have hx := ho2 (a, b) rfl
            simp only at hx
            have hh : (0 : Int) < a + 1 := by omega
            rcases o with _ | ⟨c, d⟩
            · simp only [loR, hiR]
              go_wp2
              go_roundg (31 - (i + 1))
              case measure => omega
              case rel => exact ⟨i + 1, by omega, by omega, by go_num, by rw [hsn'.out]; exact congrArg (Value.int .i64) (by rfl), by rw [hsn'.out]; exact congrArg (Value.int .i64) (by show _ = b + 1; omega), hBi.out.trans (((Below.refl _ _).alloc (Nat.le_refl _) _).mono hBi.out.size)⟩
            · have ho := ho1 (c, d) rfl
              simp only at ho
              simp only [loR, hiR]
              have hc : ¬ c + 1 = 0 := by omega
              by_cases hac : a + 1 < c + 1
              · go_wp2
                go_roundg (31 - (i + 1))
                case measure => omega
                case rel => exact ⟨i + 1, by omega, by omega, by go_num, by rw [hsn'.out]; exact congrArg (Value.int .i64) (by show _ = min c a + 1; omega), by rw [hsn'.out]; exact congrArg (Value.int .i64) (by show _ = max d b + 1; omega), hBi.out.trans (((Below.refl _ _).alloc (Nat.le_refl _) _).mono hBi.out.size)⟩
              · go_wp2
                go_roundg (31 - (i + 1))
                case measure => omega
                case rel => exact ⟨i + 1, by omega, by omega, by go_num, by rw [hsn'.out]; exact congrArg (Value.int .i64) (by show _ = min c a + 1; omega), by rw [hsn'.out]; exact congrArg (Value.int .i64) (by show _ = max d b + 1; omega), hBi.out.trans (((Below.refl _ _).alloc (Nat.le_refl _) _).mono hBi.out.size)⟩
        · have hltiz : ¬ (i : Int) ≤ 30 := by omega
          obtain rfl : i = 31 := by omega
          go_wp2
          go_roundg (61 - (k + 1))
          case measure => omega
          case rel => exact ⟨k + 1, by omega, by omega, by go_num, by rw [show (k + 1) * 31 = k * 31 + 31 by omega], by rw [show (k + 1) * 31 = k * 31 + 31 by omega], hB.out.trans (hBi.out.mono hB.out.size)⟩
    · have hltz : ¬ (k : Int) ≤ 60 := by omega
      obtain rfl : k = 61 := by omega
      have hBw := hBW.trans (hB.out.mono hBW.size)
      have ho1 := sumJ_ok hF.out 1891
      rw [HO.out] at ho1
      simp only [show 61 * 31 = 1891 by rfl]
      rw [HO.out]
      replace t0 := (hB.out.cell (p := ⟨w.heap.size + 1, 0, none⟩) (by show w.heap.size + 1 < _; omega)).trans t0
      replace t1 := (hB.out.cell (p := ⟨w.heap.size + 1, 1, none⟩) (by show w.heap.size + 1 < _; omega)).trans t1
      replace f0 := (hB.out.frozen (p := ⟨w.heap.size + 1, 0, none⟩) (by show w.heap.size + 1 < _; omega)).trans f0
      replace f1 := (hB.out.frozen (p := ⟨w.heap.size + 1, 1, none⟩) (by show w.heap.size + 1 < _; omega)).trans f1
      have hl : w.heap.size + 1 < wr.heap.size := by have := hB.out.size; omega
      clear HO
      rcases O with _ | ⟨c, d⟩
      · simp only [loR, hiR]
        go_wp2
        refine bodyPost_ret (v := .tuple #[.agg #[.int .i64 0, .int .i64 0], .bool false]) (by simp [results, Try.results34, go_sem, t0, t1, f0, f1, hl]) rfl ⟨rfl, (by (try show Below _ _ _); repeat (first | (with_reducible refine Below.setCell ?_ (by first | omega | (simp <;> omega)) _) | (with_reducible refine Below.alloc ?_ (by first | omega | (simp <;> omega)) _) | (with_reducible refine Below.drew ?_) | (with_reducible exact Below.refl _ _) | (with_reducible exact hBw) | (with_reducible refine below_call ?_ (by assumption) (by first | omega | (simp <;> omega))) | (with_reducible refine below_call ?_ (Drew.below (by assumption) _) (by first | omega | (simp <;> omega)))))⟩
      · have ho := ho1 (c, d) rfl
        simp only at ho
        simp only [loR, hiR]
        have hc : ¬ c + 1 = 0 := by omega
        have w1 : wrap64 (c + 1 - 1) = c := by rw [IntWalk.wrap64_in _ ⟨by omega, by omega⟩]; omega
        have w2 : wrap64 (d + 1 - 1) = d := by rw [IntWalk.wrap64_in _ ⟨by omega, by omega⟩]; omega
        go_wp2
        refine bodyPost_ret (v := .tuple #[.agg #[.int .i64 c, .int .i64 d], .bool true]) (by simp [results, Try.results34, go_sem, t0, t1, f0, f1, hl]) rfl ⟨rfl, (by (try show Below _ _ _); repeat (first | (with_reducible refine Below.setCell ?_ (by first | omega | (simp <;> omega)) _) | (with_reducible refine Below.alloc ?_ (by first | omega | (simp <;> omega)) _) | (with_reducible refine Below.drew ?_) | (with_reducible exact Below.refl _ _) | (with_reducible exact hBw) | (with_reducible refine below_call ?_ (by assumption) (by first | omega | (simp <;> omega))) | (with_reducible refine below_call ?_ (Drew.below (by assumption) _) (by first | omega | (simp <;> omega)))))⟩

end Go.Proofs.Ytlkecgjpmnganaa
