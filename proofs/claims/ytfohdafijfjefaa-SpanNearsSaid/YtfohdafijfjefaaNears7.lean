/- spilelaw01.SpanNears: the walk (xok_bok). -/
import Derived.Test.YtfohdafijfjefaaKnown1
import Derived.Test.YtfohdafijfjefaaRefNear
import Derived.Test.YtfohdafijfjefaaRefWide
import Derived.Test.YtfohdafijfjefaaFlat
set_option linter.unusedSimpArgs false
set_option linter.unusedVariables false
namespace Go.Proofs.Ytfohdafijfjefaa
open Go.RowKit Go.Shelf

set_option maxRecDepth 100000 in
set_option maxHeartbeats 4000000 in
theorem nears_xok_bok (A : Option Addr) (n c : Nat) (xs : List R) (b x : Int) (w : World) (hl : PairList w A n c xs) (hb : -9223372036854775808 ≤ b ∧ b ≤ 9223372036854775807) (hxx : -9223372036854775808 ≤ x ∧ x ≤ 9223372036854775807) (h : ¬ 220 < n) (hs : setS xs = 0) (hxr : btw (-1000000000000000) 1000000000000000 [x] = true) (y : R) (l : List R) (hxs : xs = y :: l) (hbr : btw 0 1000000000000000 [b] = true) :
    Calls Try.prog 7 #[.slice A n c, .int .i64 b, .int .i64 x] w fun e w' => e = .returned (.bool true) ∧ Below w.heap.size w w' := by
  obtain ⟨hlen, hle, hmax, hnone, hx, -⟩ := hl
  have hk := fun W => known1_any W
  have hz : ¬ (220 : Int) < (n : Int) := by omega
  have h1 := fun W hx => copy_39 0 A n c xs W hx hlen hnone (by omega)
  have hn : Aside (xs.length = n) := hlen
  have hmn : n ≤ maxLen := by unfold maxLen; omega
  have h2 := fun lo A c W hx => Widen_any lo A n c xs b W hx hn hmn
  have h3 := fun lo A c W hx => Narrow_any lo A n c xs b W hx hn hmn
  have h4 := fun lo A c W hx => Near_any lo A n c xs x W hx hn hmn
  have h5 := fun lo1 lo2 A1 c1 A2 c2 W hx hy => (same_self lo1 lo2 A1 c1 A2 n c2 xs W hx hy hn hmn).mono fun e w' h => (⟨h.1, drew_all h.2⟩ : _ ∧ Below W.heap.size W w')
  have h6 := fun W hx => refSet_any 0 A n c xs W hx hn hmn
  have hIx := fun W => (in_any x (-1000000000000000) 1000000000000000 W).mono fun e w' h => (⟨h.1, h.2 ▸ Below.refl _ _⟩ : _ ∧ Below W.heap.size W w')
  have hIb := fun W => (in_any b 0 1000000000000000 W).mono fun e w' h => (⟨h.1, h.2 ▸ Below.refl _ _⟩ : _ ∧ Below W.heap.size W w')
  subst hxs
  have hnz : ((n : Int) == 0) = false := by rw [beq_eq_false_iff_ne]; simp at hlen; omega
  have hok := (setS_ok hs).2
  have h7 := fun W hx => (refNear_any 0 A n c y l x W hx hlen hmn hok ((btw1 _ _ _).1 hxr)).mono fun e w' h => (⟨h.1, drew_all h.2⟩ : _ ∧ Below W.heap.size W w')
  rw [show nearS (y :: l) x = (clampR x (nearB x y l), 0) from (if_pos hs).trans (if_pos hxr)] at h4
  generalize clampR x (nearB x y l) = nv at h4 h7
  have hix : inS x (-1000000000000000) 1000000000000000 = true := by rw [← hxr]; unfold inS btw; simp
  rw [hix] at hIx
  clear hok
  rw [hs] at h6
  rw [show movedS (y :: l) b b = (movedL b (y :: l), 0) from (if_pos hs).trans (if_pos hbr)] at h2
  rw [show movedS (y :: l) b (-b) = (movedL (-b) (y :: l), 0) from (if_pos hs).trans (if_pos hbr)] at h3
  have hib : inS b 0 1000000000000000 = true := by rw [← hbr]; unfold inS btw; simp
  rw [hib] at hIb
  have h8 := fun W hx => refWiden_any 0 A n c (y :: l) b W hx hn hs ((btw1 _ _ _).1 hbr)
  have h9 := fun W hx => refNarrow_any 0 A n c (y :: l) b W hx hn hs ((btw1 _ _ _).1 hbr)
  have hl1 := movedL_len b (y :: l) (y :: l).length (Nat.le_refl _)
  have hl2 := movedL_len (-b) (y :: l) (y :: l).length (Nat.le_refl _)
  rw [List.take_length] at hl1 hl2
  generalize movedL b (y :: l) = W1 at h2 h8 hl1
  generalize movedL (-b) (y :: l) = W2 at h3 h9 hl2
  have hm1 : W1.length ≤ maxLen := by unfold maxLen; omega
  have hm2' : W2.length ≤ maxLen := by unfold maxLen; omega
  have h10 := fun lo1 lo2 A1 c1 A2 c2 W hx hy => (same_self lo1 lo2 A1 c1 A2 W1.length c2 W1 W hx hy rfl hm1).mono fun e w' h => (⟨h.1, drew_all h.2⟩ : _ ∧ Below W.heap.size W w')
  have h11 := fun lo1 lo2 A1 c1 A2 c2 W hx hy => (same_self lo1 lo2 A1 c1 A2 W2.length c2 W2 W hx hy rfl hm2').mono fun e w' h => (⟨h.1, drew_all h.2⟩ : _ ∧ Below W.heap.size W w')
  clear hs hxr hbr hix hib hl1 hl2
  clear hlen hnone
  unfold maxLen at hmax
  go_enter Try.func7, Try.ntmps7
  go_wp2_with fail
  refine (h1 _ (hx.below ((by (try show Below _ _ _); repeat (first | (with_reducible refine Below.setCell ?_ (by first | omega | (simp <;> omega)) _) | (with_reducible refine Below.alloc ?_ (by first | omega | (simp <;> omega)) _) | (with_reducible refine Below.drew ?_) | (with_reducible exact Below.refl _ _) | (with_reducible exact Below.refl _ _) | (with_reducible refine below_call ?_ (by assumption) (by first | omega | (simp <;> omega))) | (with_reducible refine below_call ?_ (Drew.below (by assumption) _) (by first | omega | (simp <;> omega)))))) (Nat.le_refl _))).mono ?_
  rintro e w1 ⟨A2, c2, rfl, hc2, hm2, hy, hb1⟩
  replace hy := hy.mono (Nat.zero_le _)
  have hz1 := hb1.size
  (try simp only [World.size_alloc, World.size_setCell, World.size_drew] at hz1)
  have hB1 : Below w.heap.size w w1 := (by (try show Below _ _ _); repeat (first | (with_reducible refine Below.setCell ?_ (by first | omega | (simp <;> omega)) _) | (with_reducible refine Below.alloc ?_ (by first | omega | (simp <;> omega)) _) | (with_reducible refine Below.drew ?_) | (with_reducible exact Below.refl _ _) | (with_reducible exact Below.refl _ _) | (with_reducible refine below_call ?_ hb1 (by first | omega | (simp <;> omega))) | (with_reducible refine below_call ?_ (Drew.below hb1 _) (by first | omega | (simp <;> omega)))))
  clear hb1 
  go_wp2_with fail
  refine (h2 _ _ _ _ (hy.below ((by (try show Below _ _ _); repeat (first | (with_reducible refine Below.setCell ?_ (by first | omega | (simp <;> omega)) _) | (with_reducible refine Below.alloc ?_ (by first | omega | (simp <;> omega)) _) | (with_reducible refine Below.drew ?_) | (with_reducible exact Below.refl _ _) | (with_reducible exact Below.refl _ _) | (with_reducible refine below_call ?_ (by assumption) (by first | omega | (simp <;> omega))) | (with_reducible refine below_call ?_ (Drew.below (by assumption) _) (by first | omega | (simp <;> omega)))))) (Nat.le_refl _))).mono ?_
  rintro e w2 ⟨v2, rfl, ho2, -, hb2⟩
  obtain ⟨Ahw, chw, hvw, -, -, hw⟩ := ho2.reads
  subst hvw
  clear ho2
  have hz2 := hb2.size
  (try simp only [World.size_alloc, World.size_setCell, World.size_drew] at hz2)
  have hB1_2 : Below w1.heap.size w1 w2 := (by (try show Below _ _ _); repeat (first | (with_reducible refine Below.setCell ?_ (by first | omega | (simp <;> omega)) _) | (with_reducible refine Below.alloc ?_ (by first | omega | (simp <;> omega)) _) | (with_reducible refine Below.drew ?_) | (with_reducible exact Below.refl _ _) | (with_reducible exact Below.refl _ _) | (with_reducible refine below_call ?_ hb2 (by first | omega | (simp <;> omega))) | (with_reducible refine below_call ?_ (Drew.below hb2 _) (by first | omega | (simp <;> omega)))))
  have hB2 : Below w.heap.size w w2 := (by (try show Below _ _ _); repeat (first | (with_reducible refine Below.setCell ?_ (by first | omega | (simp <;> omega)) _) | (with_reducible refine Below.alloc ?_ (by first | omega | (simp <;> omega)) _) | (with_reducible refine Below.drew ?_) | (with_reducible exact Below.refl _ _) | (with_reducible exact hB1) | (with_reducible refine below_call ?_ hb2 (by first | omega | (simp <;> omega))) | (with_reducible refine below_call ?_ (Drew.below hb2 _) (by first | omega | (simp <;> omega)))))
  clear hb2 hB1 
  go_wp2_with fail
  refine (h3 _ _ _ _ (hy.below ((by (try show Below _ _ _); repeat (first | (with_reducible refine Below.setCell ?_ (by first | omega | (simp <;> omega)) _) | (with_reducible refine Below.alloc ?_ (by first | omega | (simp <;> omega)) _) | (with_reducible refine Below.drew ?_) | (with_reducible exact Below.refl _ _) | (with_reducible exact hB1_2) | (with_reducible refine below_call ?_ (by assumption) (by first | omega | (simp <;> omega))) | (with_reducible refine below_call ?_ (Drew.below (by assumption) _) (by first | omega | (simp <;> omega)))))) (Nat.le_refl _))).mono ?_
  rintro e w3 ⟨v2, rfl, ho2, -, hb3⟩
  obtain ⟨Ahv, chv, hvw, -, -, hv⟩ := ho2.reads
  subst hvw
  clear ho2
  have hz3 := hb3.size
  (try simp only [World.size_alloc, World.size_setCell, World.size_drew] at hz3)
  have hB1_3 : Below w1.heap.size w1 w3 := (by (try show Below _ _ _); repeat (first | (with_reducible refine Below.setCell ?_ (by first | omega | (simp <;> omega)) _) | (with_reducible refine Below.alloc ?_ (by first | omega | (simp <;> omega)) _) | (with_reducible refine Below.drew ?_) | (with_reducible exact Below.refl _ _) | (with_reducible exact hB1_2) | (with_reducible refine below_call ?_ hb3 (by first | omega | (simp <;> omega))) | (with_reducible refine below_call ?_ (Drew.below hb3 _) (by first | omega | (simp <;> omega)))))
  clear hB1_2
  have hB2_3 : Below w2.heap.size w2 w3 := (by (try show Below _ _ _); repeat (first | (with_reducible refine Below.setCell ?_ (by first | omega | (simp <;> omega)) _) | (with_reducible refine Below.alloc ?_ (by first | omega | (simp <;> omega)) _) | (with_reducible refine Below.drew ?_) | (with_reducible exact Below.refl _ _) | (with_reducible exact Below.refl _ _) | (with_reducible refine below_call ?_ hb3 (by first | omega | (simp <;> omega))) | (with_reducible refine below_call ?_ (Drew.below hb3 _) (by first | omega | (simp <;> omega)))))
  have hB3 : Below w.heap.size w w3 := (by (try show Below _ _ _); repeat (first | (with_reducible refine Below.setCell ?_ (by first | omega | (simp <;> omega)) _) | (with_reducible refine Below.alloc ?_ (by first | omega | (simp <;> omega)) _) | (with_reducible refine Below.drew ?_) | (with_reducible exact Below.refl _ _) | (with_reducible exact hB2) | (with_reducible refine below_call ?_ hb3 (by first | omega | (simp <;> omega))) | (with_reducible refine below_call ?_ (Drew.below hb3 _) (by first | omega | (simp <;> omega)))))
  clear hb3 hB2 
  go_wp2_with fail
  refine (h4 _ _ _ _ (hy.below ((by (try show Below _ _ _); repeat (first | (with_reducible refine Below.setCell ?_ (by first | omega | (simp <;> omega)) _) | (with_reducible refine Below.alloc ?_ (by first | omega | (simp <;> omega)) _) | (with_reducible refine Below.drew ?_) | (with_reducible exact Below.refl _ _) | (with_reducible exact hB1_3) | (with_reducible refine below_call ?_ (by assumption) (by first | omega | (simp <;> omega))) | (with_reducible refine below_call ?_ (Drew.below (by assumption) _) (by first | omega | (simp <;> omega)))))) (Nat.le_refl _))).mono ?_
  rintro e w4 ⟨rfl, hb4⟩
  have hz4 := hb4.size
  (try simp only [World.size_alloc, World.size_setCell, World.size_drew] at hz4)
  have hB1_4 : Below w1.heap.size w1 w4 := (by (try show Below _ _ _); repeat (first | (with_reducible refine Below.setCell ?_ (by first | omega | (simp <;> omega)) _) | (with_reducible refine Below.alloc ?_ (by first | omega | (simp <;> omega)) _) | (with_reducible refine Below.drew ?_) | (with_reducible exact Below.refl _ _) | (with_reducible exact hB1_3) | (with_reducible refine below_call ?_ hb4 (by first | omega | (simp <;> omega))) | (with_reducible refine below_call ?_ (Drew.below hb4 _) (by first | omega | (simp <;> omega)))))
  clear hB1_3
  have hB2_4 : Below w2.heap.size w2 w4 := (by (try show Below _ _ _); repeat (first | (with_reducible refine Below.setCell ?_ (by first | omega | (simp <;> omega)) _) | (with_reducible refine Below.alloc ?_ (by first | omega | (simp <;> omega)) _) | (with_reducible refine Below.drew ?_) | (with_reducible exact Below.refl _ _) | (with_reducible exact hB2_3) | (with_reducible refine below_call ?_ hb4 (by first | omega | (simp <;> omega))) | (with_reducible refine below_call ?_ (Drew.below hb4 _) (by first | omega | (simp <;> omega)))))
  clear hB2_3
  have hB3_4 : Below w3.heap.size w3 w4 := (by (try show Below _ _ _); repeat (first | (with_reducible refine Below.setCell ?_ (by first | omega | (simp <;> omega)) _) | (with_reducible refine Below.alloc ?_ (by first | omega | (simp <;> omega)) _) | (with_reducible refine Below.drew ?_) | (with_reducible exact Below.refl _ _) | (with_reducible exact Below.refl _ _) | (with_reducible refine below_call ?_ hb4 (by first | omega | (simp <;> omega))) | (with_reducible refine below_call ?_ (Drew.below hb4 _) (by first | omega | (simp <;> omega)))))
  have hB4 : Below w.heap.size w w4 := (by (try show Below _ _ _); repeat (first | (with_reducible refine Below.setCell ?_ (by first | omega | (simp <;> omega)) _) | (with_reducible refine Below.alloc ?_ (by first | omega | (simp <;> omega)) _) | (with_reducible refine Below.drew ?_) | (with_reducible exact Below.refl _ _) | (with_reducible exact hB3) | (with_reducible refine below_call ?_ hb4 (by first | omega | (simp <;> omega))) | (with_reducible refine below_call ?_ (Drew.below hb4 _) (by first | omega | (simp <;> omega)))))
  clear hb4 hB3 
  go_wp2_with fail
  refine (h5 _ _ _ _ _ _ _ (hy.below ((by (try show Below _ _ _); repeat (first | (with_reducible refine Below.setCell ?_ (by first | omega | (simp <;> omega)) _) | (with_reducible refine Below.alloc ?_ (by first | omega | (simp <;> omega)) _) | (with_reducible refine Below.drew ?_) | (with_reducible exact Below.refl _ _) | (with_reducible exact hB1_4) | (with_reducible refine below_call ?_ (by assumption) (by first | omega | (simp <;> omega))) | (with_reducible refine below_call ?_ (Drew.below (by assumption) _) (by first | omega | (simp <;> omega)))))) (Nat.le_refl _)) (hx.below ((by (try show Below _ _ _); repeat (first | (with_reducible refine Below.setCell ?_ (by first | omega | (simp <;> omega)) _) | (with_reducible refine Below.alloc ?_ (by first | omega | (simp <;> omega)) _) | (with_reducible refine Below.drew ?_) | (with_reducible exact Below.refl _ _) | (with_reducible exact hB4) | (with_reducible refine below_call ?_ (by assumption) (by first | omega | (simp <;> omega))) | (with_reducible refine below_call ?_ (Drew.below (by assumption) _) (by first | omega | (simp <;> omega)))))) (Nat.le_refl _))).mono ?_
  rintro e w5 ⟨rfl, hb5⟩
  have hz5 := hb5.size
  (try simp only [World.size_alloc, World.size_setCell, World.size_drew] at hz5)
  have hB1_5 : Below w1.heap.size w1 w5 := (by (try show Below _ _ _); repeat (first | (with_reducible refine Below.setCell ?_ (by first | omega | (simp <;> omega)) _) | (with_reducible refine Below.alloc ?_ (by first | omega | (simp <;> omega)) _) | (with_reducible refine Below.drew ?_) | (with_reducible exact Below.refl _ _) | (with_reducible exact hB1_4) | (with_reducible refine below_call ?_ hb5 (by first | omega | (simp <;> omega))) | (with_reducible refine below_call ?_ (Drew.below hb5 _) (by first | omega | (simp <;> omega)))))
  clear hB1_4
  have hB2_5 : Below w2.heap.size w2 w5 := (by (try show Below _ _ _); repeat (first | (with_reducible refine Below.setCell ?_ (by first | omega | (simp <;> omega)) _) | (with_reducible refine Below.alloc ?_ (by first | omega | (simp <;> omega)) _) | (with_reducible refine Below.drew ?_) | (with_reducible exact Below.refl _ _) | (with_reducible exact hB2_4) | (with_reducible refine below_call ?_ hb5 (by first | omega | (simp <;> omega))) | (with_reducible refine below_call ?_ (Drew.below hb5 _) (by first | omega | (simp <;> omega)))))
  clear hB2_4
  have hB3_5 : Below w3.heap.size w3 w5 := (by (try show Below _ _ _); repeat (first | (with_reducible refine Below.setCell ?_ (by first | omega | (simp <;> omega)) _) | (with_reducible refine Below.alloc ?_ (by first | omega | (simp <;> omega)) _) | (with_reducible refine Below.drew ?_) | (with_reducible exact Below.refl _ _) | (with_reducible exact hB3_4) | (with_reducible refine below_call ?_ hb5 (by first | omega | (simp <;> omega))) | (with_reducible refine below_call ?_ (Drew.below hb5 _) (by first | omega | (simp <;> omega)))))
  clear hB3_4
  have hB5 : Below w.heap.size w w5 := (by (try show Below _ _ _); repeat (first | (with_reducible refine Below.setCell ?_ (by first | omega | (simp <;> omega)) _) | (with_reducible refine Below.alloc ?_ (by first | omega | (simp <;> omega)) _) | (with_reducible refine Below.drew ?_) | (with_reducible exact Below.refl _ _) | (with_reducible exact hB4) | (with_reducible refine below_call ?_ hb5 (by first | omega | (simp <;> omega))) | (with_reducible refine below_call ?_ (Drew.below hb5 _) (by first | omega | (simp <;> omega)))))
  clear hb5 hB4 
  go_wp2_with fail
  refine (h6 _ (hx.below ((by (try show Below _ _ _); repeat (first | (with_reducible refine Below.setCell ?_ (by first | omega | (simp <;> omega)) _) | (with_reducible refine Below.alloc ?_ (by first | omega | (simp <;> omega)) _) | (with_reducible refine Below.drew ?_) | (with_reducible exact Below.refl _ _) | (with_reducible exact hB5) | (with_reducible refine below_call ?_ (by assumption) (by first | omega | (simp <;> omega))) | (with_reducible refine below_call ?_ (Drew.below (by assumption) _) (by first | omega | (simp <;> omega)))))) (Nat.le_refl _))).mono ?_
  rintro e w6 ⟨rfl, hb6⟩
  have hz6 := hb6.size
  (try simp only [World.size_alloc, World.size_setCell, World.size_drew] at hz6)
  have hB1_6 : Below w1.heap.size w1 w6 := (by (try show Below _ _ _); repeat (first | (with_reducible refine Below.setCell ?_ (by first | omega | (simp <;> omega)) _) | (with_reducible refine Below.alloc ?_ (by first | omega | (simp <;> omega)) _) | (with_reducible refine Below.drew ?_) | (with_reducible exact Below.refl _ _) | (with_reducible exact hB1_5) | (with_reducible refine below_call ?_ hb6 (by first | omega | (simp <;> omega))) | (with_reducible refine below_call ?_ (Drew.below hb6 _) (by first | omega | (simp <;> omega)))))
  clear hB1_5
  have hB2_6 : Below w2.heap.size w2 w6 := (by (try show Below _ _ _); repeat (first | (with_reducible refine Below.setCell ?_ (by first | omega | (simp <;> omega)) _) | (with_reducible refine Below.alloc ?_ (by first | omega | (simp <;> omega)) _) | (with_reducible refine Below.drew ?_) | (with_reducible exact Below.refl _ _) | (with_reducible exact hB2_5) | (with_reducible refine below_call ?_ hb6 (by first | omega | (simp <;> omega))) | (with_reducible refine below_call ?_ (Drew.below hb6 _) (by first | omega | (simp <;> omega)))))
  clear hB2_5
  have hB3_6 : Below w3.heap.size w3 w6 := (by (try show Below _ _ _); repeat (first | (with_reducible refine Below.setCell ?_ (by first | omega | (simp <;> omega)) _) | (with_reducible refine Below.alloc ?_ (by first | omega | (simp <;> omega)) _) | (with_reducible refine Below.drew ?_) | (with_reducible exact Below.refl _ _) | (with_reducible exact hB3_5) | (with_reducible refine below_call ?_ hb6 (by first | omega | (simp <;> omega))) | (with_reducible refine below_call ?_ (Drew.below hb6 _) (by first | omega | (simp <;> omega)))))
  clear hB3_5
  have hB6 : Below w.heap.size w w6 := (by (try show Below _ _ _); repeat (first | (with_reducible refine Below.setCell ?_ (by first | omega | (simp <;> omega)) _) | (with_reducible refine Below.alloc ?_ (by first | omega | (simp <;> omega)) _) | (with_reducible refine Below.drew ?_) | (with_reducible exact Below.refl _ _) | (with_reducible exact hB5) | (with_reducible refine below_call ?_ hb6 (by first | omega | (simp <;> omega))) | (with_reducible refine below_call ?_ (Drew.below hb6 _) (by first | omega | (simp <;> omega)))))
  clear hb6 hB5 
  go_wp2_with fail
  refine (hIx _).mono ?_
  rintro e w7 ⟨rfl, hb7⟩
  have hz7 := hb7.size
  (try simp only [World.size_alloc, World.size_setCell, World.size_drew] at hz7)
  have hB1_7 : Below w1.heap.size w1 w7 := (by (try show Below _ _ _); repeat (first | (with_reducible refine Below.setCell ?_ (by first | omega | (simp <;> omega)) _) | (with_reducible refine Below.alloc ?_ (by first | omega | (simp <;> omega)) _) | (with_reducible refine Below.drew ?_) | (with_reducible exact Below.refl _ _) | (with_reducible exact hB1_6) | (with_reducible refine below_call ?_ hb7 (by first | omega | (simp <;> omega))) | (with_reducible refine below_call ?_ (Drew.below hb7 _) (by first | omega | (simp <;> omega)))))
  clear hB1_6
  have hB2_7 : Below w2.heap.size w2 w7 := (by (try show Below _ _ _); repeat (first | (with_reducible refine Below.setCell ?_ (by first | omega | (simp <;> omega)) _) | (with_reducible refine Below.alloc ?_ (by first | omega | (simp <;> omega)) _) | (with_reducible refine Below.drew ?_) | (with_reducible exact Below.refl _ _) | (with_reducible exact hB2_6) | (with_reducible refine below_call ?_ hb7 (by first | omega | (simp <;> omega))) | (with_reducible refine below_call ?_ (Drew.below hb7 _) (by first | omega | (simp <;> omega)))))
  clear hB2_6
  have hB3_7 : Below w3.heap.size w3 w7 := (by (try show Below _ _ _); repeat (first | (with_reducible refine Below.setCell ?_ (by first | omega | (simp <;> omega)) _) | (with_reducible refine Below.alloc ?_ (by first | omega | (simp <;> omega)) _) | (with_reducible refine Below.drew ?_) | (with_reducible exact Below.refl _ _) | (with_reducible exact hB3_6) | (with_reducible refine below_call ?_ hb7 (by first | omega | (simp <;> omega))) | (with_reducible refine below_call ?_ (Drew.below hb7 _) (by first | omega | (simp <;> omega)))))
  clear hB3_6
  have hB7 : Below w.heap.size w w7 := (by (try show Below _ _ _); repeat (first | (with_reducible refine Below.setCell ?_ (by first | omega | (simp <;> omega)) _) | (with_reducible refine Below.alloc ?_ (by first | omega | (simp <;> omega)) _) | (with_reducible refine Below.drew ?_) | (with_reducible exact Below.refl _ _) | (with_reducible exact hB6) | (with_reducible refine below_call ?_ hb7 (by first | omega | (simp <;> omega))) | (with_reducible refine below_call ?_ (Drew.below hb7 _) (by first | omega | (simp <;> omega)))))
  clear hb7 hB6 
  go_wp2_with fail
  refine (h7 _ (hx.below ((by (try show Below _ _ _); repeat (first | (with_reducible refine Below.setCell ?_ (by first | omega | (simp <;> omega)) _) | (with_reducible refine Below.alloc ?_ (by first | omega | (simp <;> omega)) _) | (with_reducible refine Below.drew ?_) | (with_reducible exact Below.refl _ _) | (with_reducible exact hB7) | (with_reducible refine below_call ?_ (by assumption) (by first | omega | (simp <;> omega))) | (with_reducible refine below_call ?_ (Drew.below (by assumption) _) (by first | omega | (simp <;> omega)))))) (Nat.le_refl _))).mono ?_
  rintro e w8 ⟨rfl, hb8⟩
  have hz8 := hb8.size
  (try simp only [World.size_alloc, World.size_setCell, World.size_drew] at hz8)
  have hB1_8 : Below w1.heap.size w1 w8 := (by (try show Below _ _ _); repeat (first | (with_reducible refine Below.setCell ?_ (by first | omega | (simp <;> omega)) _) | (with_reducible refine Below.alloc ?_ (by first | omega | (simp <;> omega)) _) | (with_reducible refine Below.drew ?_) | (with_reducible exact Below.refl _ _) | (with_reducible exact hB1_7) | (with_reducible refine below_call ?_ hb8 (by first | omega | (simp <;> omega))) | (with_reducible refine below_call ?_ (Drew.below hb8 _) (by first | omega | (simp <;> omega)))))
  clear hB1_7
  have hB2_8 : Below w2.heap.size w2 w8 := (by (try show Below _ _ _); repeat (first | (with_reducible refine Below.setCell ?_ (by first | omega | (simp <;> omega)) _) | (with_reducible refine Below.alloc ?_ (by first | omega | (simp <;> omega)) _) | (with_reducible refine Below.drew ?_) | (with_reducible exact Below.refl _ _) | (with_reducible exact hB2_7) | (with_reducible refine below_call ?_ hb8 (by first | omega | (simp <;> omega))) | (with_reducible refine below_call ?_ (Drew.below hb8 _) (by first | omega | (simp <;> omega)))))
  clear hB2_7
  have hB3_8 : Below w3.heap.size w3 w8 := (by (try show Below _ _ _); repeat (first | (with_reducible refine Below.setCell ?_ (by first | omega | (simp <;> omega)) _) | (with_reducible refine Below.alloc ?_ (by first | omega | (simp <;> omega)) _) | (with_reducible refine Below.drew ?_) | (with_reducible exact Below.refl _ _) | (with_reducible exact hB3_7) | (with_reducible refine below_call ?_ hb8 (by first | omega | (simp <;> omega))) | (with_reducible refine below_call ?_ (Drew.below hb8 _) (by first | omega | (simp <;> omega)))))
  clear hB3_7
  have hB8 : Below w.heap.size w w8 := (by (try show Below _ _ _); repeat (first | (with_reducible refine Below.setCell ?_ (by first | omega | (simp <;> omega)) _) | (with_reducible refine Below.alloc ?_ (by first | omega | (simp <;> omega)) _) | (with_reducible refine Below.drew ?_) | (with_reducible exact Below.refl _ _) | (with_reducible exact hB7) | (with_reducible refine below_call ?_ hb8 (by first | omega | (simp <;> omega))) | (with_reducible refine below_call ?_ (Drew.below hb8 _) (by first | omega | (simp <;> omega)))))
  clear hb8 hB7 
  go_wp2_with fail
  refine (hIb _).mono ?_
  rintro e w9 ⟨rfl, hb9⟩
  have hz9 := hb9.size
  (try simp only [World.size_alloc, World.size_setCell, World.size_drew] at hz9)
  have hB1_9 : Below w1.heap.size w1 w9 := (by (try show Below _ _ _); repeat (first | (with_reducible refine Below.setCell ?_ (by first | omega | (simp <;> omega)) _) | (with_reducible refine Below.alloc ?_ (by first | omega | (simp <;> omega)) _) | (with_reducible refine Below.drew ?_) | (with_reducible exact Below.refl _ _) | (with_reducible exact hB1_8) | (with_reducible refine below_call ?_ hb9 (by first | omega | (simp <;> omega))) | (with_reducible refine below_call ?_ (Drew.below hb9 _) (by first | omega | (simp <;> omega)))))
  clear hB1_8
  have hB2_9 : Below w2.heap.size w2 w9 := (by (try show Below _ _ _); repeat (first | (with_reducible refine Below.setCell ?_ (by first | omega | (simp <;> omega)) _) | (with_reducible refine Below.alloc ?_ (by first | omega | (simp <;> omega)) _) | (with_reducible refine Below.drew ?_) | (with_reducible exact Below.refl _ _) | (with_reducible exact hB2_8) | (with_reducible refine below_call ?_ hb9 (by first | omega | (simp <;> omega))) | (with_reducible refine below_call ?_ (Drew.below hb9 _) (by first | omega | (simp <;> omega)))))
  clear hB2_8
  have hB3_9 : Below w3.heap.size w3 w9 := (by (try show Below _ _ _); repeat (first | (with_reducible refine Below.setCell ?_ (by first | omega | (simp <;> omega)) _) | (with_reducible refine Below.alloc ?_ (by first | omega | (simp <;> omega)) _) | (with_reducible refine Below.drew ?_) | (with_reducible exact Below.refl _ _) | (with_reducible exact hB3_8) | (with_reducible refine below_call ?_ hb9 (by first | omega | (simp <;> omega))) | (with_reducible refine below_call ?_ (Drew.below hb9 _) (by first | omega | (simp <;> omega)))))
  clear hB3_8
  have hB9 : Below w.heap.size w w9 := (by (try show Below _ _ _); repeat (first | (with_reducible refine Below.setCell ?_ (by first | omega | (simp <;> omega)) _) | (with_reducible refine Below.alloc ?_ (by first | omega | (simp <;> omega)) _) | (with_reducible refine Below.drew ?_) | (with_reducible exact Below.refl _ _) | (with_reducible exact hB8) | (with_reducible refine below_call ?_ hb9 (by first | omega | (simp <;> omega))) | (with_reducible refine below_call ?_ (Drew.below hb9 _) (by first | omega | (simp <;> omega)))))
  clear hb9 hB8 
  go_wp2_with fail
  refine (h8 _ (hx.below ((by (try show Below _ _ _); repeat (first | (with_reducible refine Below.setCell ?_ (by first | omega | (simp <;> omega)) _) | (with_reducible refine Below.alloc ?_ (by first | omega | (simp <;> omega)) _) | (with_reducible refine Below.drew ?_) | (with_reducible exact Below.refl _ _) | (with_reducible exact hB9) | (with_reducible refine below_call ?_ (by assumption) (by first | omega | (simp <;> omega))) | (with_reducible refine below_call ?_ (Drew.below (by assumption) _) (by first | omega | (simp <;> omega)))))) (Nat.le_refl _))).mono ?_
  rintro e w10 ⟨Ahr, chr, rfl, hr, hb10⟩
  have hz10 := hb10.size
  (try simp only [World.size_alloc, World.size_setCell, World.size_drew] at hz10)
  have hB1_10 : Below w1.heap.size w1 w10 := (by (try show Below _ _ _); repeat (first | (with_reducible refine Below.setCell ?_ (by first | omega | (simp <;> omega)) _) | (with_reducible refine Below.alloc ?_ (by first | omega | (simp <;> omega)) _) | (with_reducible refine Below.drew ?_) | (with_reducible exact Below.refl _ _) | (with_reducible exact hB1_9) | (with_reducible refine below_call ?_ hb10 (by first | omega | (simp <;> omega))) | (with_reducible refine below_call ?_ (Drew.below hb10 _) (by first | omega | (simp <;> omega)))))
  clear hB1_9
  have hB2_10 : Below w2.heap.size w2 w10 := (by (try show Below _ _ _); repeat (first | (with_reducible refine Below.setCell ?_ (by first | omega | (simp <;> omega)) _) | (with_reducible refine Below.alloc ?_ (by first | omega | (simp <;> omega)) _) | (with_reducible refine Below.drew ?_) | (with_reducible exact Below.refl _ _) | (with_reducible exact hB2_9) | (with_reducible refine below_call ?_ hb10 (by first | omega | (simp <;> omega))) | (with_reducible refine below_call ?_ (Drew.below hb10 _) (by first | omega | (simp <;> omega)))))
  clear hB2_9
  have hB3_10 : Below w3.heap.size w3 w10 := (by (try show Below _ _ _); repeat (first | (with_reducible refine Below.setCell ?_ (by first | omega | (simp <;> omega)) _) | (with_reducible refine Below.alloc ?_ (by first | omega | (simp <;> omega)) _) | (with_reducible refine Below.drew ?_) | (with_reducible exact Below.refl _ _) | (with_reducible exact hB3_9) | (with_reducible refine below_call ?_ hb10 (by first | omega | (simp <;> omega))) | (with_reducible refine below_call ?_ (Drew.below hb10 _) (by first | omega | (simp <;> omega)))))
  clear hB3_9
  have hB10 : Below w.heap.size w w10 := (by (try show Below _ _ _); repeat (first | (with_reducible refine Below.setCell ?_ (by first | omega | (simp <;> omega)) _) | (with_reducible refine Below.alloc ?_ (by first | omega | (simp <;> omega)) _) | (with_reducible refine Below.drew ?_) | (with_reducible exact Below.refl _ _) | (with_reducible exact hB9) | (with_reducible refine below_call ?_ hb10 (by first | omega | (simp <;> omega))) | (with_reducible refine below_call ?_ (Drew.below hb10 _) (by first | omega | (simp <;> omega)))))
  clear hb10 hB9 
  go_wp2_with fail
  refine (h10 _ _ _ _ _ _ _ (hw.below ((by (try show Below _ _ _); repeat (first | (with_reducible refine Below.setCell ?_ (by first | omega | (simp <;> omega)) _) | (with_reducible refine Below.alloc ?_ (by first | omega | (simp <;> omega)) _) | (with_reducible refine Below.drew ?_) | (with_reducible exact Below.refl _ _) | (with_reducible exact hB2_10) | (with_reducible refine below_call ?_ (by assumption) (by first | omega | (simp <;> omega))) | (with_reducible refine below_call ?_ (Drew.below (by assumption) _) (by first | omega | (simp <;> omega)))))) (Nat.le_refl _)) (hr.below ((by (try show Below _ _ _); repeat (first | (with_reducible refine Below.setCell ?_ (by first | omega | (simp <;> omega)) _) | (with_reducible refine Below.alloc ?_ (by first | omega | (simp <;> omega)) _) | (with_reducible refine Below.drew ?_) | (with_reducible exact Below.refl _ _) | (with_reducible exact Below.refl _ _) | (with_reducible refine below_call ?_ (by assumption) (by first | omega | (simp <;> omega))) | (with_reducible refine below_call ?_ (Drew.below (by assumption) _) (by first | omega | (simp <;> omega)))))) (Nat.le_refl _))).mono ?_
  rintro e w11 ⟨rfl, hb11⟩
  have hz11 := hb11.size
  (try simp only [World.size_alloc, World.size_setCell, World.size_drew] at hz11)
  have hB1_11 : Below w1.heap.size w1 w11 := (by (try show Below _ _ _); repeat (first | (with_reducible refine Below.setCell ?_ (by first | omega | (simp <;> omega)) _) | (with_reducible refine Below.alloc ?_ (by first | omega | (simp <;> omega)) _) | (with_reducible refine Below.drew ?_) | (with_reducible exact Below.refl _ _) | (with_reducible exact hB1_10) | (with_reducible refine below_call ?_ hb11 (by first | omega | (simp <;> omega))) | (with_reducible refine below_call ?_ (Drew.below hb11 _) (by first | omega | (simp <;> omega)))))
  clear hB1_10
  have hB2_11 : Below w2.heap.size w2 w11 := (by (try show Below _ _ _); repeat (first | (with_reducible refine Below.setCell ?_ (by first | omega | (simp <;> omega)) _) | (with_reducible refine Below.alloc ?_ (by first | omega | (simp <;> omega)) _) | (with_reducible refine Below.drew ?_) | (with_reducible exact Below.refl _ _) | (with_reducible exact hB2_10) | (with_reducible refine below_call ?_ hb11 (by first | omega | (simp <;> omega))) | (with_reducible refine below_call ?_ (Drew.below hb11 _) (by first | omega | (simp <;> omega)))))
  clear hB2_10
  have hB3_11 : Below w3.heap.size w3 w11 := (by (try show Below _ _ _); repeat (first | (with_reducible refine Below.setCell ?_ (by first | omega | (simp <;> omega)) _) | (with_reducible refine Below.alloc ?_ (by first | omega | (simp <;> omega)) _) | (with_reducible refine Below.drew ?_) | (with_reducible exact Below.refl _ _) | (with_reducible exact hB3_10) | (with_reducible refine below_call ?_ hb11 (by first | omega | (simp <;> omega))) | (with_reducible refine below_call ?_ (Drew.below hb11 _) (by first | omega | (simp <;> omega)))))
  clear hB3_10
  have hB10_11 : Below w10.heap.size w10 w11 := (by (try show Below _ _ _); repeat (first | (with_reducible refine Below.setCell ?_ (by first | omega | (simp <;> omega)) _) | (with_reducible refine Below.alloc ?_ (by first | omega | (simp <;> omega)) _) | (with_reducible refine Below.drew ?_) | (with_reducible exact Below.refl _ _) | (with_reducible exact Below.refl _ _) | (with_reducible refine below_call ?_ hb11 (by first | omega | (simp <;> omega))) | (with_reducible refine below_call ?_ (Drew.below hb11 _) (by first | omega | (simp <;> omega)))))
  have hB11 : Below w.heap.size w w11 := (by (try show Below _ _ _); repeat (first | (with_reducible refine Below.setCell ?_ (by first | omega | (simp <;> omega)) _) | (with_reducible refine Below.alloc ?_ (by first | omega | (simp <;> omega)) _) | (with_reducible refine Below.drew ?_) | (with_reducible exact Below.refl _ _) | (with_reducible exact hB10) | (with_reducible refine below_call ?_ hb11 (by first | omega | (simp <;> omega))) | (with_reducible refine below_call ?_ (Drew.below hb11 _) (by first | omega | (simp <;> omega)))))
  clear hb11 hB10 
  go_wp2_with fail
  refine (h9 _ (hx.below ((by (try show Below _ _ _); repeat (first | (with_reducible refine Below.setCell ?_ (by first | omega | (simp <;> omega)) _) | (with_reducible refine Below.alloc ?_ (by first | omega | (simp <;> omega)) _) | (with_reducible refine Below.drew ?_) | (with_reducible exact Below.refl _ _) | (with_reducible exact hB11) | (with_reducible refine below_call ?_ (by assumption) (by first | omega | (simp <;> omega))) | (with_reducible refine below_call ?_ (Drew.below (by assumption) _) (by first | omega | (simp <;> omega)))))) (Nat.le_refl _))).mono ?_
  rintro e w12 ⟨Aht, cht, rfl, ht, hb12⟩
  have hz12 := hb12.size
  (try simp only [World.size_alloc, World.size_setCell, World.size_drew] at hz12)
  have hB1_12 : Below w1.heap.size w1 w12 := (by (try show Below _ _ _); repeat (first | (with_reducible refine Below.setCell ?_ (by first | omega | (simp <;> omega)) _) | (with_reducible refine Below.alloc ?_ (by first | omega | (simp <;> omega)) _) | (with_reducible refine Below.drew ?_) | (with_reducible exact Below.refl _ _) | (with_reducible exact hB1_11) | (with_reducible refine below_call ?_ hb12 (by first | omega | (simp <;> omega))) | (with_reducible refine below_call ?_ (Drew.below hb12 _) (by first | omega | (simp <;> omega)))))
  clear hB1_11
  have hB2_12 : Below w2.heap.size w2 w12 := (by (try show Below _ _ _); repeat (first | (with_reducible refine Below.setCell ?_ (by first | omega | (simp <;> omega)) _) | (with_reducible refine Below.alloc ?_ (by first | omega | (simp <;> omega)) _) | (with_reducible refine Below.drew ?_) | (with_reducible exact Below.refl _ _) | (with_reducible exact hB2_11) | (with_reducible refine below_call ?_ hb12 (by first | omega | (simp <;> omega))) | (with_reducible refine below_call ?_ (Drew.below hb12 _) (by first | omega | (simp <;> omega)))))
  clear hB2_11
  have hB3_12 : Below w3.heap.size w3 w12 := (by (try show Below _ _ _); repeat (first | (with_reducible refine Below.setCell ?_ (by first | omega | (simp <;> omega)) _) | (with_reducible refine Below.alloc ?_ (by first | omega | (simp <;> omega)) _) | (with_reducible refine Below.drew ?_) | (with_reducible exact Below.refl _ _) | (with_reducible exact hB3_11) | (with_reducible refine below_call ?_ hb12 (by first | omega | (simp <;> omega))) | (with_reducible refine below_call ?_ (Drew.below hb12 _) (by first | omega | (simp <;> omega)))))
  clear hB3_11
  have hB10_12 : Below w10.heap.size w10 w12 := (by (try show Below _ _ _); repeat (first | (with_reducible refine Below.setCell ?_ (by first | omega | (simp <;> omega)) _) | (with_reducible refine Below.alloc ?_ (by first | omega | (simp <;> omega)) _) | (with_reducible refine Below.drew ?_) | (with_reducible exact Below.refl _ _) | (with_reducible exact hB10_11) | (with_reducible refine below_call ?_ hb12 (by first | omega | (simp <;> omega))) | (with_reducible refine below_call ?_ (Drew.below hb12 _) (by first | omega | (simp <;> omega)))))
  clear hB10_11
  have hB12 : Below w.heap.size w w12 := (by (try show Below _ _ _); repeat (first | (with_reducible refine Below.setCell ?_ (by first | omega | (simp <;> omega)) _) | (with_reducible refine Below.alloc ?_ (by first | omega | (simp <;> omega)) _) | (with_reducible refine Below.drew ?_) | (with_reducible exact Below.refl _ _) | (with_reducible exact hB11) | (with_reducible refine below_call ?_ hb12 (by first | omega | (simp <;> omega))) | (with_reducible refine below_call ?_ (Drew.below hb12 _) (by first | omega | (simp <;> omega)))))
  clear hb12 hB11 
  go_wp2_with fail
  refine (h11 _ _ _ _ _ _ _ (hv.below ((by (try show Below _ _ _); repeat (first | (with_reducible refine Below.setCell ?_ (by first | omega | (simp <;> omega)) _) | (with_reducible refine Below.alloc ?_ (by first | omega | (simp <;> omega)) _) | (with_reducible refine Below.drew ?_) | (with_reducible exact Below.refl _ _) | (with_reducible exact hB3_12) | (with_reducible refine below_call ?_ (by assumption) (by first | omega | (simp <;> omega))) | (with_reducible refine below_call ?_ (Drew.below (by assumption) _) (by first | omega | (simp <;> omega)))))) (Nat.le_refl _)) (ht.below ((by (try show Below _ _ _); repeat (first | (with_reducible refine Below.setCell ?_ (by first | omega | (simp <;> omega)) _) | (with_reducible refine Below.alloc ?_ (by first | omega | (simp <;> omega)) _) | (with_reducible refine Below.drew ?_) | (with_reducible exact Below.refl _ _) | (with_reducible exact Below.refl _ _) | (with_reducible refine below_call ?_ (by assumption) (by first | omega | (simp <;> omega))) | (with_reducible refine below_call ?_ (Drew.below (by assumption) _) (by first | omega | (simp <;> omega)))))) (Nat.le_refl _))).mono ?_
  rintro e w13 ⟨rfl, hb13⟩
  have hz13 := hb13.size
  (try simp only [World.size_alloc, World.size_setCell, World.size_drew] at hz13)
  have hB1_13 : Below w1.heap.size w1 w13 := (by (try show Below _ _ _); repeat (first | (with_reducible refine Below.setCell ?_ (by first | omega | (simp <;> omega)) _) | (with_reducible refine Below.alloc ?_ (by first | omega | (simp <;> omega)) _) | (with_reducible refine Below.drew ?_) | (with_reducible exact Below.refl _ _) | (with_reducible exact hB1_12) | (with_reducible refine below_call ?_ hb13 (by first | omega | (simp <;> omega))) | (with_reducible refine below_call ?_ (Drew.below hb13 _) (by first | omega | (simp <;> omega)))))
  clear hB1_12
  have hB2_13 : Below w2.heap.size w2 w13 := (by (try show Below _ _ _); repeat (first | (with_reducible refine Below.setCell ?_ (by first | omega | (simp <;> omega)) _) | (with_reducible refine Below.alloc ?_ (by first | omega | (simp <;> omega)) _) | (with_reducible refine Below.drew ?_) | (with_reducible exact Below.refl _ _) | (with_reducible exact hB2_12) | (with_reducible refine below_call ?_ hb13 (by first | omega | (simp <;> omega))) | (with_reducible refine below_call ?_ (Drew.below hb13 _) (by first | omega | (simp <;> omega)))))
  clear hB2_12
  have hB3_13 : Below w3.heap.size w3 w13 := (by (try show Below _ _ _); repeat (first | (with_reducible refine Below.setCell ?_ (by first | omega | (simp <;> omega)) _) | (with_reducible refine Below.alloc ?_ (by first | omega | (simp <;> omega)) _) | (with_reducible refine Below.drew ?_) | (with_reducible exact Below.refl _ _) | (with_reducible exact hB3_12) | (with_reducible refine below_call ?_ hb13 (by first | omega | (simp <;> omega))) | (with_reducible refine below_call ?_ (Drew.below hb13 _) (by first | omega | (simp <;> omega)))))
  clear hB3_12
  have hB10_13 : Below w10.heap.size w10 w13 := (by (try show Below _ _ _); repeat (first | (with_reducible refine Below.setCell ?_ (by first | omega | (simp <;> omega)) _) | (with_reducible refine Below.alloc ?_ (by first | omega | (simp <;> omega)) _) | (with_reducible refine Below.drew ?_) | (with_reducible exact Below.refl _ _) | (with_reducible exact hB10_12) | (with_reducible refine below_call ?_ hb13 (by first | omega | (simp <;> omega))) | (with_reducible refine below_call ?_ (Drew.below hb13 _) (by first | omega | (simp <;> omega)))))
  clear hB10_12
  have hB12_13 : Below w12.heap.size w12 w13 := (by (try show Below _ _ _); repeat (first | (with_reducible refine Below.setCell ?_ (by first | omega | (simp <;> omega)) _) | (with_reducible refine Below.alloc ?_ (by first | omega | (simp <;> omega)) _) | (with_reducible refine Below.drew ?_) | (with_reducible exact Below.refl _ _) | (with_reducible exact Below.refl _ _) | (with_reducible refine below_call ?_ hb13 (by first | omega | (simp <;> omega))) | (with_reducible refine below_call ?_ (Drew.below hb13 _) (by first | omega | (simp <;> omega)))))
  have hB13 : Below w.heap.size w w13 := (by (try show Below _ _ _); repeat (first | (with_reducible refine Below.setCell ?_ (by first | omega | (simp <;> omega)) _) | (with_reducible refine Below.alloc ?_ (by first | omega | (simp <;> omega)) _) | (with_reducible refine Below.drew ?_) | (with_reducible exact Below.refl _ _) | (with_reducible exact hB12) | (with_reducible refine below_call ?_ hb13 (by first | omega | (simp <;> omega))) | (with_reducible refine below_call ?_ (Drew.below hb13 _) (by first | omega | (simp <;> omega)))))
  clear hb13 hB12 
  go_wp2_with fail
  refine (hk _).mono ?_
  rintro e w14 ⟨rfl, hb14⟩
  have hz14 := hb14.size
  (try simp only [World.size_alloc, World.size_setCell, World.size_drew] at hz14)
  have hB1_14 : Below w1.heap.size w1 w14 := (by (try show Below _ _ _); repeat (first | (with_reducible refine Below.setCell ?_ (by first | omega | (simp <;> omega)) _) | (with_reducible refine Below.alloc ?_ (by first | omega | (simp <;> omega)) _) | (with_reducible refine Below.drew ?_) | (with_reducible exact Below.refl _ _) | (with_reducible exact hB1_13) | (with_reducible refine below_call ?_ hb14 (by first | omega | (simp <;> omega))) | (with_reducible refine below_call ?_ (Drew.below hb14 _) (by first | omega | (simp <;> omega)))))
  clear hB1_13
  have hB2_14 : Below w2.heap.size w2 w14 := (by (try show Below _ _ _); repeat (first | (with_reducible refine Below.setCell ?_ (by first | omega | (simp <;> omega)) _) | (with_reducible refine Below.alloc ?_ (by first | omega | (simp <;> omega)) _) | (with_reducible refine Below.drew ?_) | (with_reducible exact Below.refl _ _) | (with_reducible exact hB2_13) | (with_reducible refine below_call ?_ hb14 (by first | omega | (simp <;> omega))) | (with_reducible refine below_call ?_ (Drew.below hb14 _) (by first | omega | (simp <;> omega)))))
  clear hB2_13
  have hB3_14 : Below w3.heap.size w3 w14 := (by (try show Below _ _ _); repeat (first | (with_reducible refine Below.setCell ?_ (by first | omega | (simp <;> omega)) _) | (with_reducible refine Below.alloc ?_ (by first | omega | (simp <;> omega)) _) | (with_reducible refine Below.drew ?_) | (with_reducible exact Below.refl _ _) | (with_reducible exact hB3_13) | (with_reducible refine below_call ?_ hb14 (by first | omega | (simp <;> omega))) | (with_reducible refine below_call ?_ (Drew.below hb14 _) (by first | omega | (simp <;> omega)))))
  clear hB3_13
  have hB10_14 : Below w10.heap.size w10 w14 := (by (try show Below _ _ _); repeat (first | (with_reducible refine Below.setCell ?_ (by first | omega | (simp <;> omega)) _) | (with_reducible refine Below.alloc ?_ (by first | omega | (simp <;> omega)) _) | (with_reducible refine Below.drew ?_) | (with_reducible exact Below.refl _ _) | (with_reducible exact hB10_13) | (with_reducible refine below_call ?_ hb14 (by first | omega | (simp <;> omega))) | (with_reducible refine below_call ?_ (Drew.below hb14 _) (by first | omega | (simp <;> omega)))))
  clear hB10_13
  have hB12_14 : Below w12.heap.size w12 w14 := (by (try show Below _ _ _); repeat (first | (with_reducible refine Below.setCell ?_ (by first | omega | (simp <;> omega)) _) | (with_reducible refine Below.alloc ?_ (by first | omega | (simp <;> omega)) _) | (with_reducible refine Below.drew ?_) | (with_reducible exact Below.refl _ _) | (with_reducible exact hB12_13) | (with_reducible refine below_call ?_ hb14 (by first | omega | (simp <;> omega))) | (with_reducible refine below_call ?_ (Drew.below hb14 _) (by first | omega | (simp <;> omega)))))
  clear hB12_13
  have hB14 : Below w.heap.size w w14 := (by (try show Below _ _ _); repeat (first | (with_reducible refine Below.setCell ?_ (by first | omega | (simp <;> omega)) _) | (with_reducible refine Below.alloc ?_ (by first | omega | (simp <;> omega)) _) | (with_reducible refine Below.drew ?_) | (with_reducible exact Below.refl _ _) | (with_reducible exact hB13) | (with_reducible refine below_call ?_ hb14 (by first | omega | (simp <;> omega))) | (with_reducible refine below_call ?_ (Drew.below hb14 _) (by first | omega | (simp <;> omega)))))
  clear hb14 hB13 
  go_wp2
  go_ret
  exact ⟨rfl, (by (try show Below _ _ _); repeat (first | (with_reducible refine Below.setCell ?_ (by first | omega | (simp <;> omega)) _) | (with_reducible refine Below.alloc ?_ (by first | omega | (simp <;> omega)) _) | (with_reducible refine Below.drew ?_) | (with_reducible exact Below.refl _ _) | (with_reducible exact hB14) | (with_reducible refine below_call ?_ (by assumption) (by first | omega | (simp <;> omega))) | (with_reducible refine below_call ?_ (Drew.below (by assumption) _) (by first | omega | (simp <;> omega)))))⟩

end Go.Proofs.Ytfohdafijfjefaa
