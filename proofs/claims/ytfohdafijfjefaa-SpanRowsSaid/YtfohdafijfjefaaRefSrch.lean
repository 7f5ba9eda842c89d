/- Contract: reference search. -/
import Derived.Test.YtfohdafijfjefaaRefVal
set_option linter.unusedSimpArgs false
set_option linter.unusedVariables false
namespace Go.Proofs.Ytfohdafijfjefaa
open Go.RowKit Go.Shelf
attribute [local go_sem ↓] Go.wp_at_zero Go.wp_at_succ

/-- what the search asks of the value at a place -/
def srchT (y v : R) : Bool → Bool → Bool
  | true, false => decide (y.lo ≤ v.lo)
  | true, true => decide (y.hi < v.hi)
  | false, false => decide (v.hi ≤ y.hi)
  | false, true => decide (v.lo < y.lo)

structure SrI (w : World) (y0 y1 : Int) (wr : World) : Prop where
  below : Below w.heap.size w wr
  size : w.heap.size < wr.heap.size
  p0 : wr.cell? ⟨w.heap.size, 0, none⟩ = some (.int .i64 y0)
  p1 : wr.cell? ⟨w.heap.size, 1, none⟩ = some (.int .i64 y1)

theorem SrI.later {w : World} {y0 y1 : Int} {wr W : World} (h : SrI w y0 y1 wr) (hb : Below wr.heap.size wr W) : SrI w y0 y1 W := by
  obtain ⟨h1, h2, p0, p1⟩ := h
  have hz := hb.size
  exact ⟨below_call h1 hb (by omega), by omega, (hb.cell (p := ⟨w.heap.size, 0, none⟩) h2).trans p0, (hb.cell (p := ⟨w.heap.size, 1, none⟩) h2).trans p1⟩

set_option maxRecDepth 100000 in
set_option maxHeartbeats 4000000 in
theorem refSearch_any (lo : Nat) (A : Option Addr) (n c : Nat) (t : List R) (a b F y0 y1 : Int) (rises behind : Bool) (w : World) (hx : Ranges w lo A t) (hn : Aside (t.length = n)) (hok : tableS t = true)
    (hab : -1000000000 ≤ a ∧ a ≤ F ∧ F ≤ b + 1 ∧ b ≤ 1000000000) (hv : ∀ m, a ≤ m → m ≤ b → valueIn t m = true) (hF : ∀ m, a ≤ m → m ≤ b → (srchT ⟨y0, y1⟩ (valS t m) rises behind = true ↔ F ≤ m)) :
    Calls Try.prog 120 #[.slice A n c, .int .i64 a, .int .i64 b, .agg #[.int .i64 y0, .int .i64 y1], .bool rises, .bool behind] w fun e w' => e = .returned (.int .i64 F) ∧ Below w.heap.size w w' := by
  have hV := Lib.hid (fun (m : Int) (h1 : a ≤ m) (h2 : m ≤ b) W (h : Below w.heap.size w W) => refValue_any lo A n c t m W (hx.below h (Nat.le_refl _)) hn hok (hv m h1 h2))
  have HF := Lib.hid hF
  have hwb : IntKind.i64.wrap (b + 1) = b + 1 := by rw [IntKind.wrap_i64]; omega
  clear hx hn hok hv hF
  go_enter Try.func120, Try.ntmps120
  go_wp2
  go_loopg [13, 14] ((b + 1 - a).toNat) (fun gg i j wr => ∃ l h : Int, i = .int .i64 l ∧ j = .int .i64 h ∧ l ≤ F ∧ F ≤ h ∧ a ≤ l ∧ h ≤ b + 1 ∧ (h - l).toNat ≤ gg ∧ Aside (SrI w y0 y1 wr))
  case atStart =>
    refine ⟨a, b + 1, rfl, by go_num, by omega, by omega, by omega, by omega, by omega, ?_⟩
    exact ⟨(by (try show Below _ _ _); repeat (first | (with_reducible refine Below.setCell ?_ (by first | omega | (simp <;> omega)) _) | (with_reducible refine Below.alloc ?_ (by first | omega | (simp <;> omega)) _) | (with_reducible refine Below.drew ?_) | (with_reducible exact Below.refl _ _) | (with_reducible exact Below.refl _ _) | (with_reducible refine below_call ?_ (by assumption) (by first | omega | (simp <;> omega))) | (with_reducible refine below_call ?_ (Drew.below (by assumption) _) (by first | omega | (simp <;> omega))))), by simp, by simp [go_sem], by simp [go_sem]⟩
  case round =>
    obtain ⟨l, h, rfl, rfl, h1, h2, h3, h4, h5, I⟩ := hrel
    by_cases hlh : l < h
    · obtain ⟨mid, hmid⟩ : ∃ m, m = l + (h - l) / 2 := ⟨_, rfl⟩
      have hm : l ≤ mid ∧ mid < h := by omega
      have hFl := fun W => floor_any (h - l) 2 (by omega) (by omega) W
      have hdm : l + (h - l) / 2 = mid := hmid.symm
      generalize (h - l) / 2 = dd at hFl hdm
      have w1 : IntKind.i64.wrap (h - l) = h - l := by rw [IntKind.wrap_i64]; omega
      have w2 : IntKind.i64.wrap (l + dd) = mid := by rw [IntKind.wrap_i64]; omega
      have w3 : IntKind.i64.wrap (mid + 1) = mid + 1 := by rw [IntKind.wrap_i64]; omega
      have hVm := hV.out mid (by omega) (by omega)
      have hFm := HF.out mid (by omega) (by omega)
      generalize valS t mid = v at hVm hFm
      obtain ⟨v0, v1⟩ := v
      clear hmid
      go_wp2_with fail
      refine (hFl _).mono ?_
      rintro e w0x ⟨rfl, rfl⟩
      go_wp2_with fail
      refine (hVm _ I.out.below).mono ?_
      rintro e w3 ⟨rfl, hb3⟩
      have hz3 := hb3.size
      try simp only [World.size_alloc, World.size_setCell, World.size_drew] at hz3
      have J := Lib.hid (I.out.later hb3)
      clear hVm hFl I
      obtain ⟨q1, q2, P0, P1⟩ := J.out
      clear q1
      unfold srchT at hFm
      cases rises <;> cases behind <;> simp only [decide_eq_true_eq] at hFm
      case false.false =>
        by_cases hcc : v1 ≤ y1
        · have hle : F ≤ mid := hFm.1 hcc
          go_wp2
          go_roundg ((mid - l).toNat)
          case measure => omega
          case rel => exact ⟨l, mid, rfl, rfl, by omega, by omega, by omega, by omega, by omega, J.out.later (by (try show Below _ _ _); repeat (first | (with_reducible refine Below.setCell ?_ (by first | omega | (simp <;> omega)) _) | (with_reducible refine Below.alloc ?_ (by first | omega | (simp <;> omega)) _) | (with_reducible refine Below.drew ?_) | (with_reducible exact Below.refl _ _) | (with_reducible exact Below.refl _ _) | (with_reducible refine below_call ?_ (by assumption) (by first | omega | (simp <;> omega))) | (with_reducible refine below_call ?_ (Drew.below (by assumption) _) (by first | omega | (simp <;> omega)))))⟩
        · have hle : ¬ F ≤ mid := fun h => hcc (hFm.2 h)
          go_wp2
          go_roundg ((h - (mid + 1)).toNat)
          case measure => omega
          case rel => exact ⟨mid + 1, h, by go_num, rfl, by omega, by omega, by omega, by omega, by omega, J.out.later (by (try show Below _ _ _); repeat (first | (with_reducible refine Below.setCell ?_ (by first | omega | (simp <;> omega)) _) | (with_reducible refine Below.alloc ?_ (by first | omega | (simp <;> omega)) _) | (with_reducible refine Below.drew ?_) | (with_reducible exact Below.refl _ _) | (with_reducible exact Below.refl _ _) | (with_reducible refine below_call ?_ (by assumption) (by first | omega | (simp <;> omega))) | (with_reducible refine below_call ?_ (Drew.below (by assumption) _) (by first | omega | (simp <;> omega)))))⟩
      case false.true =>
        by_cases hcc : v0 < y0
        · have hle : F ≤ mid := hFm.1 hcc
          go_wp2
          go_roundg ((mid - l).toNat)
          case measure => omega
          case rel => exact ⟨l, mid, rfl, rfl, by omega, by omega, by omega, by omega, by omega, J.out.later (by (try show Below _ _ _); repeat (first | (with_reducible refine Below.setCell ?_ (by first | omega | (simp <;> omega)) _) | (with_reducible refine Below.alloc ?_ (by first | omega | (simp <;> omega)) _) | (with_reducible refine Below.drew ?_) | (with_reducible exact Below.refl _ _) | (with_reducible exact Below.refl _ _) | (with_reducible refine below_call ?_ (by assumption) (by first | omega | (simp <;> omega))) | (with_reducible refine below_call ?_ (Drew.below (by assumption) _) (by first | omega | (simp <;> omega)))))⟩
        · have hle : ¬ F ≤ mid := fun h => hcc (hFm.2 h)
          go_wp2
          go_roundg ((h - (mid + 1)).toNat)
          case measure => omega
          case rel => exact ⟨mid + 1, h, by go_num, rfl, by omega, by omega, by omega, by omega, by omega, J.out.later (by (try show Below _ _ _); repeat (first | (with_reducible refine Below.setCell ?_ (by first | omega | (simp <;> omega)) _) | (with_reducible refine Below.alloc ?_ (by first | omega | (simp <;> omega)) _) | (with_reducible refine Below.drew ?_) | (with_reducible exact Below.refl _ _) | (with_reducible exact Below.refl _ _) | (with_reducible refine below_call ?_ (by assumption) (by first | omega | (simp <;> omega))) | (with_reducible refine below_call ?_ (Drew.below (by assumption) _) (by first | omega | (simp <;> omega)))))⟩
      case true.false =>
        by_cases hcc : y0 ≤ v0
        · have hle : F ≤ mid := hFm.1 hcc
          go_wp2
          go_roundg ((mid - l).toNat)
          case measure => omega
          case rel => exact ⟨l, mid, rfl, rfl, by omega, by omega, by omega, by omega, by omega, J.out.later (by (try show Below _ _ _); repeat (first | (with_reducible refine Below.setCell ?_ (by first | omega | (simp <;> omega)) _) | (with_reducible refine Below.alloc ?_ (by first | omega | (simp <;> omega)) _) | (with_reducible refine Below.drew ?_) | (with_reducible exact Below.refl _ _) | (with_reducible exact Below.refl _ _) | (with_reducible refine below_call ?_ (by assumption) (by first | omega | (simp <;> omega))) | (with_reducible refine below_call ?_ (Drew.below (by assumption) _) (by first | omega | (simp <;> omega)))))⟩
        · have hle : ¬ F ≤ mid := fun h => hcc (hFm.2 h)
          go_wp2
          go_roundg ((h - (mid + 1)).toNat)
          case measure => omega
          case rel => exact ⟨mid + 1, h, by go_num, rfl, by omega, by omega, by omega, by omega, by omega, J.out.later (by (try show Below _ _ _); repeat (first | (with_reducible refine Below.setCell ?_ (by first | omega | (simp <;> omega)) _) | (with_reducible refine Below.alloc ?_ (by first | omega | (simp <;> omega)) _) | (with_reducible refine Below.drew ?_) | (with_reducible exact Below.refl _ _) | (with_reducible exact Below.refl _ _) | (with_reducible refine below_call ?_ (by assumption) (by first | omega | (simp <;> omega))) | (with_reducible refine below_call ?_ (Drew.below (by assumption) _) (by first | omega | (simp <;> omega)))))⟩
      case true.true =>
        by_cases hcc : y1 < v1
        · have hle : F ≤ mid := hFm.1 hcc
          go_wp2
          go_roundg ((mid - l).toNat)
          case measure => omega
          case rel => exact ⟨l, mid, rfl, rfl, by omega, by omega, by omega, by omega, by omega, J.out.later (by (try show Below _ _ _); repeat (first | (with_reducible refine Below.setCell ?_ (by first | omega | (simp <;> omega)) _) | (with_reducible refine Below.alloc ?_ (by first | omega | (simp <;> omega)) _) | (with_reducible refine Below.drew ?_) | (with_reducible exact Below.refl _ _) | (with_reducible exact Below.refl _ _) | (with_reducible refine below_call ?_ (by assumption) (by first | omega | (simp <;> omega))) | (with_reducible refine below_call ?_ (Drew.below (by assumption) _) (by first | omega | (simp <;> omega)))))⟩
        · have hle : ¬ F ≤ mid := fun h => hcc (hFm.2 h)
          go_wp2
          go_roundg ((h - (mid + 1)).toNat)
          case measure => omega
          case rel => exact ⟨mid + 1, h, by go_num, rfl, by omega, by omega, by omega, by omega, by omega, J.out.later (by (try show Below _ _ _); repeat (first | (with_reducible refine Below.setCell ?_ (by first | omega | (simp <;> omega)) _) | (with_reducible refine Below.alloc ?_ (by first | omega | (simp <;> omega)) _) | (with_reducible refine Below.drew ?_) | (with_reducible exact Below.refl _ _) | (with_reducible exact Below.refl _ _) | (with_reducible refine below_call ?_ (by assumption) (by first | omega | (simp <;> omega))) | (with_reducible refine below_call ?_ (Drew.below (by assumption) _) (by first | omega | (simp <;> omega)))))⟩
    · have hlF : l = F := Int.le_antisymm h1 (Int.le_trans h2 (Int.not_lt.1 hlh))
      have J := I.out.below
      clear I
      go_wp2
      refine bodyPost_ret (v := .int .i64 l) (by simp [results, Try.results120, go_sem]; exact hlF.symm) rfl ⟨by rw [hlF], (by (try show Below _ _ _); repeat (first | (with_reducible refine Below.setCell ?_ (by first | omega | (simp <;> omega)) _) | (with_reducible refine Below.alloc ?_ (by first | omega | (simp <;> omega)) _) | (with_reducible refine Below.drew ?_) | (with_reducible exact Below.refl _ _) | (with_reducible exact J) | (with_reducible refine below_call ?_ (by assumption) (by first | omega | (simp <;> omega))) | (with_reducible refine below_call ?_ (Drew.below (by assumption) _) (by first | omega | (simp <;> omega)))))⟩

end Go.Proofs.Ytfohdafijfjefaa
