/- Contract: math/bits.Div64. -/
import Derived.Test.YtlkecgjpmnganaaBits
import Derived.Test.YtlkecgjpmnganaaDivMath
import Derived.Outline
import Derived.Deep.DeepCutAuto
import Derived.Deep.CutBlock
set_option linter.unusedSimpArgs false
set_option linter.unusedVariables false
namespace Go.Proofs.Ytlkecgjpmnganaa
open Go.RowKit Go.Shelf

theorem u64_div (a b : Nat) (ha : a < 18446744073709551616) : IntKind.u64.wrap ((a : Int) / (b : Int)) = ((a / b : Nat) : Int) := by
  have : a / b ≤ a := Nat.div_le_self _ _
  rw [← Int.natCast_ediv]; exact M64.wrapN _ (by omega)

set_option maxHeartbeats 1000000 in
theorem div64_small (lo y : Nat) (hlo : lo < 18446744073709551616) (hy : y < 18446744073709551616) (h : 0 < y) (w : World) :
    Calls Try.prog 106 #[.int .u64 0, .int .u64 lo, .int .u64 y] w fun e w' => e = .returned (.tuple #[.int .u64 ((lo / y : Nat) : Int), .int .u64 ((lo % y : Nat) : Int)]) ∧ Drew w w' := by
  have hy0 : ((y : Int) == 0) = false := by rw [beq_eq_false_iff_ne]; omega
  have hle : ¬ ((y : Int) ≤ 0) := by omega
  have hq := u64_div lo y hlo
  go_enter Try.func106, Try.ntmps106
  go_wp2
  go_quiet (fail)
  go_wp2
  go_ret2
  exact ⟨rfl, _, rfl⟩

/-- what a digit's loop leaves -/
def Dig (q1 : Value) (Q : Nat) : Prop := q1 = .int .u64 (Q : Int)

set_option maxHeartbeats 4000000 in
set_option maxRecDepth 100000 in
theorem div64_big (hi lo y : Nat) (hhi : hi < y) (hh0 : 0 < hi) (hlo : lo < 18446744073709551616) (hy : y < 18446744073709551616) (w : World) :
    Calls Try.prog 106 #[.int .u64 hi, .int .u64 lo, .int .u64 y] w fun e w' => e = .returned (.tuple #[.int .u64 (((hi * 18446744073709551616 + lo) / y : Nat) : Int), .int .u64 (((hi * 18446744073709551616 + lo) % y : Nat) : Int)]) ∧ w = w' := by
  have hy0 : ((y : Int) == 0) = false := by rw [beq_eq_false_iff_ne]; omega
  have hh0' : ((hi : Int) == 0) = false := by rw [beq_eq_false_iff_ne]; omega
  have hle : ¬ ((y : Int) ≤ (hi : Int)) := by omega
  obtain ⟨hb1, hb2, hn1, hn2⟩ := DivM.norm y (by omega) hy
  have hlead := fun W => lead64 (y : Int) W (by omega) (by omega)
  simp only [Int.toNat_natCast] at hlead
  generalize Lib.bitLen y = bl at *
  obtain ⟨s, hs⟩ : ∃ s, s = 64 - bl := ⟨_, rfl⟩
  have e1 : (64 : Int) - (bl : Int) = (s : Int) := by omega
  rw [← hs] at hn1 hn2
  have hs63 : s ≤ 63 := by omega
  rw [e1] at hlead
  clear e1 hs hb1 hb2
  -- the numbers' names
  obtain ⟨Y, hYe⟩ : ∃ Y : Nat, Y = y * 2 ^ s := ⟨_, rfl⟩
  obtain ⟨U, hUe⟩ : ∃ U : Nat, U = hi * 2 ^ s + lo / 2 ^ (64 - s) := ⟨_, rfl⟩
  obtain ⟨V, hVe⟩ : ∃ V : Nat, V = lo * 2 ^ s % 18446744073709551616 := ⟨_, rfl⟩
  obtain ⟨y1, hy1e⟩ : ∃ y1 : Nat, y1 = Y / 4294967296 := ⟨_, rfl⟩
  obtain ⟨y2, hy2e⟩ : ∃ y2 : Nat, y2 = Y % 4294967296 := ⟨_, rfl⟩
  obtain ⟨u1, hu1e⟩ : ∃ u1 : Nat, u1 = V / 4294967296 := ⟨_, rfl⟩
  obtain ⟨u2, hu2e⟩ : ∃ u2 : Nat, u2 = V % 4294967296 := ⟨_, rfl⟩
  have hwords := DivM.words hi lo s (by omega)
  rw [← hUe, ← hVe] at hwords
  have hmain := DivM.shifted (hi * 18446744073709551616 + lo) y (2 ^ s) (Nat.two_pow_pos s)
  rw [← hwords, ← hYe] at hmain
  have hUY : U < Y := by
    have h1 : (hi * 18446744073709551616 + lo) * 2 ^ s < y * 18446744073709551616 * 2 ^ s := Nat.mul_lt_mul_of_pos_right (by omega) (Nat.two_pow_pos s)
    rw [← hwords, Nat.mul_right_comm, ← hYe] at h1
    omega
  have hYw : IntKind.u64.wrap ((y : Int) * 2 ^ s) = (Y : Int) := by
    rw [hYe]
    have : ((y : Int) * 2 ^ s) = ((y * 2 ^ s : Nat) : Int) := by push_cast; rfl
    rw [this]; exact M64.wrapN _ hn2
  rw [← hYe] at hn1 hn2
  have hhs : hi * 2 ^ s ≤ U := hUe ▸ Nat.le_add_right _ _
  have hUw : bits .or .u64 (IntKind.u64.wrap ((hi : Int) * 2 ^ s)) ((lo : Int) / 2 ^ (64 - s)) = (U : Int) := by
    have e2 : ((hi : Int) * 2 ^ s) = ((hi * 2 ^ s : Nat) : Int) := by push_cast; rfl
    have e3 : ((lo : Int) / 2 ^ (64 - s)) = ((lo / 2 ^ (64 - s) : Nat) : Int) := by push_cast; rfl
    have hl : lo / 2 ^ (64 - s) < 2 ^ s := by
      rw [Nat.div_lt_iff_lt_mul (Nat.two_pow_pos _), ← Nat.pow_add, show s + (64 - s) = 64 by omega]; exact hlo
    have hl2 : lo / 2 ^ (64 - s) ≤ lo := Nat.div_le_self _ _
    rw [e2, e3, M64.wrapN _ (by omega), bits_or_u64_nat _ _ (by omega) (by omega), hUe]
    congr 1
    exact nat_join s _ _ (Nat.mul_mod_left _ _) hl
  have hVw : IntKind.u64.wrap ((lo : Int) * 2 ^ s) = (V : Int) := by
    have : ((lo : Int) * 2 ^ s) = ((lo * 2 ^ s : Nat) : Int) := by push_cast; rfl
    rw [this, M64.wrapM, hVe]
  have hVlt : V < 18446744073709551616 := by omega
  have hy1w : (Y : Int) / 4294967296 = (y1 : Int) := by omega
  have hy2w : bits .and .u64 (Y : Int) 4294967295 = (y2 : Int) := by rw [M64.maskN _ hn2, hy2e]
  have hu1w : (V : Int) / 4294967296 = (u1 : Int) := by omega
  have hu2w : bits .and .u64 (V : Int) 4294967295 = (u2 : Int) := by rw [M64.maskN _ hVlt, hu2e]
  have hY' : Y = y1 * 4294967296 + y2 := by omega
  have hV' : V = u1 * 4294967296 + u2 := by omega
  have b1 : 2147483648 ≤ y1 := by omega
  have b1' : y1 < 4294967296 := by omega
  have b2 : y2 < 4294967296 := by omega
  have b3 : u1 < 4294967296 := by omega
  have b4 : u2 < 4294967296 := by omega
  rw [hV', hY'] at hmain
  obtain ⟨hm1, hm2⟩ := hmain
  obtain ⟨ht1, ht2⟩ := DivM.two_digits U u1 u2 (y1 * 4294967296 + y2) (by omega)
  rw [ht1] at hm1
  rw [ht2] at hm2
  obtain ⟨Q1, hQ1⟩ : ∃ Q1 : Nat, Q1 = (U * 4294967296 + u1) / (y1 * 4294967296 + y2) := ⟨_, rfl⟩
  obtain ⟨R1, hR1⟩ : ∃ R1 : Nat, R1 = (U * 4294967296 + u1) % (y1 * 4294967296 + y2) := ⟨_, rfl⟩
  obtain ⟨Q0, hQ0⟩ : ∃ Q0 : Nat, Q0 = (R1 * 4294967296 + u2) / (y1 * 4294967296 + y2) := ⟨_, rfl⟩
  obtain ⟨R0, hR0⟩ : ∃ R0 : Nat, R0 = (R1 * 4294967296 + u2) % (y1 * 4294967296 + y2) := ⟨_, rfl⟩
  rw [← hQ1, ← hR1, ← hQ0] at hm1
  rw [← hR1, ← hR0] at hm2
  have hQ1lt : Q1 < 4294967296 := by rw [hQ1]; exact DivM.digit_lt _ _ _ (by omega) b3
  have hR1lt : R1 < Y := by rw [hR1, hY']; exact Nat.mod_lt _ (by omega)
  have hQ0lt : Q0 < 4294967296 := by rw [hQ0]; exact DivM.digit_lt _ _ _ (by omega) b4
  have hR0lt : R0 < Y := by rw [hR0, hY']; exact Nat.mod_lt _ (by omega)
  have hst := DivM.start U u1 y1 y2 (by omega) b3
  have hgu := DivM.guess_le U y1 y2 (by omega) b1 b2
  have hst' := DivM.start R1 u2 y1 y2 (by omega) b4
  have hgu' := DivM.guess_le R1 y1 y2 (by omega) b1 b2
  have hqm := Nat.div_mul_le_self U y1
  have hqm' := Nat.div_mul_le_self R1 y1
  have hrr : U - U / y1 * y1 < 4294967296 := by
    have := Nat.mod_lt U (show y1 > 0 by omega)
    have e := Nat.div_add_mod U y1
    rw [Nat.mul_comm y1] at e
    omega
  have hrr' : R1 - R1 / y1 * y1 < 4294967296 := by
    have := Nat.mod_lt R1 (show y1 > 0 by omega)
    have e := Nat.div_add_mod R1 y1
    rw [Nat.mul_comm y1] at e
    omega
  have hq1w : (U : Int) / (y1 : Int) = ((U / y1 : Nat) : Int) := (Int.natCast_ediv U y1).symm
  have hq0w : (R1 : Int) / (y1 : Int) = ((R1 / y1 : Nat) : Int) := (Int.natCast_ediv R1 y1).symm
  generalize U / y1 = g at *
  generalize R1 / y1 = g' at *
  have hgw : IntKind.u64.wrap ((g : Int) * (y1 : Int)) = ((g * y1 : Nat) : Int) := by rw [M64.mulN]; exact M64.wrapN _ (by omega)
  have hgw' : IntKind.u64.wrap ((g' : Int) * (y1 : Int)) = ((g' * y1 : Nat) : Int) := by rw [M64.mulN]; exact M64.wrapN _ (by omega)
  generalize g * y1 = p at *
  generalize g' * y1 = p' at *
  -- the second remainder: U*2^32 + u1 - Q1*Y in 64 bits
  have hsub : IntKind.u64.wrap (IntKind.u64.wrap (IntKind.u64.wrap ((U : Int) * 4294967296) + (u1 : Int)) - IntKind.u64.wrap ((Q1 : Int) * (Y : Int))) = (R1 : Int) := by
    have e := Nat.div_add_mod (U * 4294967296 + u1) (y1 * 4294967296 + y2)
    rw [← hQ1, ← hR1, ← hY', Nat.mul_comm Y Q1] at e
    have e' : ((U : Int) * 4294967296 + (u1 : Int)) = ((Q1 * Y : Nat) : Int) + (R1 : Int) := by omega
    rw [M64.mulN Q1 Y]
    generalize Q1 * Y = m at *
    simp only [IntKind.wrap_u64]
    omega
  have hsub' : IntKind.u64.wrap (IntKind.u64.wrap (IntKind.u64.wrap ((R1 : Int) * 4294967296) + (u2 : Int)) - IntKind.u64.wrap ((Q0 : Int) * (Y : Int))) = (R0 : Int) := by
    have e := Nat.div_add_mod (R1 * 4294967296 + u2) (y1 * 4294967296 + y2)
    rw [← hQ0, ← hR0, ← hY', Nat.mul_comm Y Q0] at e
    have e' : ((R1 : Int) * 4294967296 + (u2 : Int)) = ((Q0 * Y : Nat) : Int) + (R0 : Int) := by omega
    rw [M64.mulN Q0 Y]
    generalize Q0 * Y = m at *
    simp only [IntKind.wrap_u64]
    omega
  have hfin : (R0 : Int) / 2 ^ s = ((R0 / 2 ^ s : Nat) : Int) := by push_cast; rfl
  have hcom : IntKind.u64.wrap ((Q1 : Int) * 4294967296 + (Q0 : Int)) = ((Q1 * 4294967296 + Q0 : Nat) : Int) := by simp only [IntKind.wrap_u64]; omega
  rw [← hm1, ← hm2]
  generalize R0 / 2 ^ s = D at *
  clear hm1 hm2 ht1 ht2
  have HY' := Lib.hid hY'
  have HQ1 := Lib.hid hQ1
  have HQ0 := Lib.hid hQ0
  have Hst := Lib.hid hst
  have Hst' := Lib.hid hst'
  clear hYe hUe hVe hy1e hy2e hu1e hu2e hwords hY' hV' hQ1 hQ0 hR1 hR0 hst hst'
  have hYd : ¬ ((y1 : Int) = 0) := by omega
  go_enter Try.func106, Try.ntmps106
  go_upto_block 0 with (go_at_call 107; refine (hlead _).mono ?_; rintro e w' ⟨rfl, rfl⟩)
  go_cut [15] (fun s15 wx => s15 = .int .u64 (Q1 : Int) ∧ w = wx)
  case first =>
    go_wp2_with fail
    go_loopg [15, 16] (g) (fun gg s15 s16 wr => ∃ q r : Nat, q ≤ gg ∧ s15 = .int .u64 (q : Int) ∧ s16 = .int .u64 (r : Int) ∧ Aside (DivM.St U u1 y1 y2 q r) ∧ q ≤ 4294967297 ∧ r < 4294967296 ∧ Aside (wr = w))
    case atStart => exact ⟨g, U - p, Nat.le_refl _, rfl, by congr 1; omega, Hst.out, hgu, hrr, rfl⟩
    case round =>
      obtain ⟨q, r, hqg, rfl, rfl, hS, hq2, hr, hw⟩ := hrel
      obtain rfl := hw.out
      have hge := hS.out.ge
      rw [← HQ1.out] at hge
      have hcond : q < 4294967296 → IntKind.u64.wrap ((q : Int) * (y2 : Int)) = ((q * y2 : Nat) : Int) := fun h => by
        rw [M64.mulN]; refine M64.wrapN _ ?_
        have := Nat.mul_le_mul (show q ≤ 4294967295 by omega) (show y2 ≤ 4294967295 by omega)
        omega
      have htg := DivM.too_great hS.out (by omega)
      have hju := DivM.just hS.out (by omega)
      have hdn := DivM.down hS.out
      rw [← HQ1.out] at htg hju hdn
      generalize q * y2 = m at hcond htg hju
      have Hge := Lib.hid hge
      by_cases hA : 4294967296 ≤ q
      · have hdown := hdn (by omega)
        have hbr := fun h1 => DivM.done_break hdown (by omega) b2 (by omega) h1
        rw [← HQ1.out] at hbr
        have Hdown := Lib.hid hdown
        have Hbr := Lib.hid hbr
        clear hcond htg hju hdn hge hdown hbr hS
        have hAz : (4294967296 : Int) ≤ (q : Int) := by omega
        by_cases hB : 4294967296 ≤ r + y1
        · have hBz : (4294967296 : Int) ≤ (r : Int) + (y1 : Int) := by omega
          go_wp2
          go_meet
          have := Hbr.out hB
          exact ⟨by congr 1; omega, rfl⟩
        · have hBz : ¬ (4294967296 : Int) ≤ (r : Int) + (y1 : Int) := by omega
          go_wp2
          go_roundg (q - 1)
          case measure => omega
          case rel => exact ⟨q - 1, r + y1, Nat.le_refl _, by congr 1; omega, by congr 1, Hdown.out, by omega, by omega, rfl⟩
      · have hAz : ¬ (4294967296 : Int) ≤ (q : Int) := by omega
        have hm := hcond (by omega)
        by_cases hC : 4294967296 * r + u1 < m
        · have hlt := htg hC
          have hdown := hdn hlt
          have hq1 : 1 ≤ q := by omega
          have hbr := fun h1 => DivM.done_break hdown (by omega) b2 (by omega) h1
          rw [← HQ1.out] at hbr
          have Hdown := Lib.hid hdown
          have Hbr := Lib.hid hbr
          clear hcond htg hju hdn hge hdown hbr hS hlt
          have hCz : 4294967296 * (r : Int) + (u1 : Int) < (m : Int) := by omega
          by_cases hB : 4294967296 ≤ r + y1
          · have hBz : (4294967296 : Int) ≤ (r : Int) + (y1 : Int) := by omega
            go_wp2
            go_meet
            have := Hbr.out hB
            exact ⟨by congr 1; omega, rfl⟩
          · have hBz : ¬ (4294967296 : Int) ≤ (r : Int) + (y1 : Int) := by omega
            go_wp2
            go_roundg (q - 1)
            case measure => omega
            case rel => exact ⟨q - 1, r + y1, Nat.le_refl _, by congr 1; omega, by congr 1, Hdown.out, by omega, by omega, rfl⟩
        · have hj := Lib.hid (hju (by omega))
          have hCz : ¬ 4294967296 * (r : Int) + (u1 : Int) < (m : Int) := by omega
          clear hcond htg hju hdn hge hS
          go_wp2
          go_meet
          exact ⟨by rw [hj.out], rfl⟩
  case rest =>
    obtain ⟨rfl, rfl⟩ := hcut
    go_upto_block 2 with (fail)
    go_cut [18] (fun s18 wx => s18 = .int .u64 (Q0 : Int) ∧ w = wx)
    case first =>
      go_wp2_with fail
      go_loopg [18, 16] (g') (fun gg s18 s16 wr => ∃ q r : Nat, q ≤ gg ∧ s18 = .int .u64 (q : Int) ∧ s16 = .int .u64 (r : Int) ∧ Aside (DivM.St R1 u2 y1 y2 q r) ∧ q ≤ 4294967297 ∧ r < 4294967296 ∧ Aside (wr = w))
      case atStart => exact ⟨g', R1 - p', Nat.le_refl _, rfl, by congr 1; omega, Hst'.out, hgu', hrr', rfl⟩
      case round =>
        obtain ⟨q, r, hqg, rfl, rfl, hS, hq2, hr, hw⟩ := hrel
        obtain rfl := hw.out
        have hge := hS.out.ge
        rw [← HQ0.out] at hge
        have hcond : q < 4294967296 → IntKind.u64.wrap ((q : Int) * (y2 : Int)) = ((q * y2 : Nat) : Int) := fun h => by
          rw [M64.mulN]; refine M64.wrapN _ ?_
          have := Nat.mul_le_mul (show q ≤ 4294967295 by omega) (show y2 ≤ 4294967295 by omega)
          omega
        have htg := DivM.too_great hS.out (by omega)
        have hju := DivM.just hS.out (by omega)
        have hdn := DivM.down hS.out
        rw [← HQ0.out] at htg hju hdn
        generalize q * y2 = m at hcond htg hju
        have Hge := Lib.hid hge
        by_cases hA : 4294967296 ≤ q
        · have hdown := hdn (by omega)
          have hbr := fun h1 => DivM.done_break hdown (by omega) b2 (by omega) h1
          rw [← HQ0.out] at hbr
          have Hdown := Lib.hid hdown
          have Hbr := Lib.hid hbr
          clear hcond htg hju hdn hge hdown hbr hS
          have hAz : (4294967296 : Int) ≤ (q : Int) := by omega
          by_cases hB : 4294967296 ≤ r + y1
          · have hBz : (4294967296 : Int) ≤ (r : Int) + (y1 : Int) := by omega
            go_wp2
            go_meet
            have := Hbr.out hB
            exact ⟨by congr 1; omega, rfl⟩
          · have hBz : ¬ (4294967296 : Int) ≤ (r : Int) + (y1 : Int) := by omega
            go_wp2
            go_roundg (q - 1)
            case measure => omega
            case rel => exact ⟨q - 1, r + y1, Nat.le_refl _, by congr 1; omega, by congr 1, Hdown.out, by omega, by omega, rfl⟩
        · have hAz : ¬ (4294967296 : Int) ≤ (q : Int) := by omega
          have hm := hcond (by omega)
          by_cases hC : 4294967296 * r + u2 < m
          · have hlt := htg hC
            have hdown := hdn hlt
            have hq1 : 1 ≤ q := by omega
            have hbr := fun h1 => DivM.done_break hdown (by omega) b2 (by omega) h1
            rw [← HQ0.out] at hbr
            have Hdown := Lib.hid hdown
            have Hbr := Lib.hid hbr
            clear hcond htg hju hdn hge hdown hbr hS hlt
            have hCz : 4294967296 * (r : Int) + (u2 : Int) < (m : Int) := by omega
            by_cases hB : 4294967296 ≤ r + y1
            · have hBz : (4294967296 : Int) ≤ (r : Int) + (y1 : Int) := by omega
              go_wp2
              go_meet
              have := Hbr.out hB
              exact ⟨by congr 1; omega, rfl⟩
            · have hBz : ¬ (4294967296 : Int) ≤ (r : Int) + (y1 : Int) := by omega
              go_wp2
              go_roundg (q - 1)
              case measure => omega
              case rel => exact ⟨q - 1, r + y1, Nat.le_refl _, by congr 1; omega, by congr 1, Hdown.out, by omega, by omega, rfl⟩
          · have hj := Lib.hid (hju (by omega))
            have hCz : ¬ 4294967296 * (r : Int) + (u2 : Int) < (m : Int) := by omega
            clear hcond htg hju hdn hge hS
            go_wp2
            go_meet
            exact ⟨by rw [hj.out], rfl⟩
    case rest =>
      obtain ⟨rfl, rfl⟩ := hcut
      go_wp2
      go_ret2
      exact ⟨rfl, rfl⟩
end Go.Proofs.Ytlkecgjpmnganaa
