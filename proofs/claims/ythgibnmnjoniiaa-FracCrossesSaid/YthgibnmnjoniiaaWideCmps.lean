import Derived.Test.YthgibnmnjoniiaaChecked
import Derived.Test.YthgibnmnjoniiaaTwo
namespace Go.Proofs.Ythgibnmnjoniiaa
open Go.RowKit Go.Lib B

theorem sgnC (x : Int) : cmpI' x 0 = x.sign := by
  unfold cmpI'
  rcases Int.lt_trichotomy x 0 with h | h | h
  · rw [if_pos h, Int.sign_eq_neg_one_of_neg h]
  · subst h; rfl
  · rw [if_neg (by omega), if_pos h, Int.sign_eq_one_of_pos h]
theorem tmS_sign (a b : Int) : tmS a b = (a * b).sign := by
  unfold tmS
  rw [sgnC, sgnC, Int.sign_mul]
theorem cmpI'_lt {x y : Int} (h : x < y) : cmpI' x y = -1 := by unfold cmpI'; rw [if_pos h]
theorem cmpI'_gt {x y : Int} (h : y < x) : cmpI' x y = 1 := by unfold cmpI'; rw [if_neg (by omega), if_pos h]
theorem cmpI'_eq {x y : Int} (h : x = y) : cmpI' x y = 0 := by unfold cmpI'; rw [if_neg (by omega), if_neg (by omega)]
theorem cmp_lex (P Q : Nat) : orL [cmpI' ((P / 18446744073709551616 : Nat) : Int) ((Q / 18446744073709551616 : Nat) : Int), cmpI' ((P % 18446744073709551616 : Nat) : Int) ((Q % 18446744073709551616 : Nat) : Int)] = cmpI' (P : Int) (Q : Int) := by
  obtain ⟨p1, h1⟩ : ∃ p1, P / 18446744073709551616 = p1 := ⟨_, rfl⟩
  obtain ⟨p0, h0⟩ : ∃ p0, P % 18446744073709551616 = p0 := ⟨_, rfl⟩
  obtain ⟨q1, k1⟩ : ∃ q1, Q / 18446744073709551616 = q1 := ⟨_, rfl⟩
  obtain ⟨q0, k0⟩ : ∃ q0, Q % 18446744073709551616 = q0 := ⟨_, rfl⟩
  rw [h1, h0, k1, k0]
  rcases Int.lt_trichotomy (p1 : Int) q1 with h | h | h
  · rw [cmpI'_lt h, cmpI'_lt (show (P : Int) < Q by omega)]; rfl
  · rw [cmpI'_eq h]
    rcases Int.lt_trichotomy (p0 : Int) q0 with k | k | k
    · rw [cmpI'_lt k, cmpI'_lt (show (P : Int) < Q by omega)]; rfl
    · rw [cmpI'_eq k, cmpI'_eq (show (P : Int) = Q by omega)]; rfl
    · rw [cmpI'_gt k, cmpI'_gt (show (Q : Int) < P by omega)]; rfl
  · rw [cmpI'_gt h, cmpI'_gt (show (Q : Int) < P by omega)]; rfl
theorem cmpI'_sign (x y : Int) : cmpI' x y = (x - y).sign := by
  rw [← sgnC]
  unfold cmpI'
  by_cases h : x < y
  · rw [if_pos h, if_pos (by omega)]
  · by_cases h2 : y < x
    · rw [if_neg h, if_pos h2, if_neg (by omega), if_pos (by omega)]
    · rw [if_neg h, if_neg h2, if_neg (by omega), if_neg (by omega)]
theorem cmpW_eq (a b c d : Int) : cmpW a b c d = (a * b - c * d).sign := by
  unfold cmpW
  rw [cmp_lex, tmS_sign, tmS_sign, ← Int.natAbs_mul, ← Int.natAbs_mul]
  generalize a * b = x
  generalize c * d = y
  rw [cmpI'_sign, cmpI'_sign]
  rcases Int.lt_trichotomy x 0 with hx | hx | hx
  · rw [Int.sign_eq_neg_one_of_neg hx]
    rcases Int.lt_trichotomy y 0 with hy | hy | hy
    · rw [Int.sign_eq_neg_one_of_neg hy, if_neg (by decide)]
      rw [show ((x.natAbs : Int) - (y.natAbs : Int)) = -(x - y) by omega, Int.sign_neg]
      omega
    · subst hy
      rw [if_pos (by decide), Int.sub_zero, Int.sign_eq_neg_one_of_neg hx]; rfl
    · rw [Int.sign_eq_one_of_pos hy, if_pos (by decide), Int.sign_eq_neg_one_of_neg (show x - y < 0 by omega)]; rfl
  · subst hx
    rw [if_pos (by simp)]
    rw [Int.sign_zero, Int.zero_sub, Int.zero_sub, Int.sign_neg, Int.sign_neg, Int.sign_sign]
  · rw [Int.sign_eq_one_of_pos hx]
    rcases Int.lt_trichotomy y 0 with hy | hy | hy
    · rw [Int.sign_eq_neg_one_of_neg hy, if_pos (by decide), Int.sign_eq_one_of_pos (show 0 < x - y by omega)]; rfl
    · subst hy
      rw [if_pos (by decide), Int.sub_zero, Int.sign_eq_one_of_pos hx]; rfl
    · rw [Int.sign_eq_one_of_pos hy, if_neg (by decide)]
      rw [show ((x.natAbs : Int) - (y.natAbs : Int)) = x - y by omega]
      omega

set_option maxRecDepth 100000 in
set_option maxHeartbeats 2000000 in
theorem wideCmps_walk (a b c d : Int) (w : World) (ha : I64 a) (hb : I64 b) (hc : I64 c) (hd : I64 d) {R : Ending → World → Prop} (hR : ∀ w', Grow w w' → R (.returned (.bool true)) w') :
    Calls Try.prog 11 #[.int .i64 a, .int .i64 b, .int .i64 c, .int .i64 d] w R := by
  have HR := Lib.hid hR
  clear hR
  have WC := Lib.hid fun W (R : Ending → World → Prop) hR => wcmp_any a b c d ha hb hc hd W (R := R) hR
  have WS := Lib.hid fun W (R : Ending → World → Prop) hR => wsign22_any a b c d ha hb hc hd W (R := R) hR
  rw [cmpW_eq] at WC WS
  have IA := Lib.hid fun W (R : Ending → World → Prop) hR => int_any a W ha (R := R) hR
  have IB := Lib.hid fun W (R : Ending → World → Prop) hR => int_any b W hb (R := R) hR
  have IC := Lib.hid fun W (R : Ending → World → Prop) hR => int_any c W hc (R := R) hR
  have ID := Lib.hid fun W (R : Ending → World → Prop) hR => int_any d W hd (R := R) hR
  clear ha hb hc hd
  go_enter Try.func11, Try.ntmps11
  go_wp2_with fail
  go_at_call 42
  refine IA.out _ _ ?_
  intro r1 w1 hg1 hr1
  have G1 := Lib.hid hg1
  have R1 := Lib.hid hr1
  clear hg1 hr1
  go_wp2_with fail
  go_at_call 42
  refine IB.out _ _ ?_
  intro r2 w2 hg2 hr2
  have G2 := Lib.hid (G1.out.tr hg2)
  have R1 := Lib.hid (R1.out.gr hg2)
  have R2 := Lib.hid hr2
  clear hg2 hr2
  go_wp2_with fail
  go_at_call 41
  refine mul_any _ _ 4 4 _ _ _ _ w2 R1.out R2.out (by omega) (by omega) ?_
  intro r3 w3 hg3 hr3
  have G3 := Lib.hid (G2.out.tr hg3)
  obtain ⟨p3, A3, n3, c3, rfl⟩ := hr3.parts
  have R3 := Lib.hid hr3
  clear hg3 hr3
  go_wp2_with fail
  go_at_call 42
  refine IC.out _ _ ?_
  intro r4 w4 hg4 hr4
  have G4 := Lib.hid (G3.out.tr hg4)
  have R3 := Lib.hid (R3.out.gr hg4)
  have R4 := Lib.hid hr4
  clear hg4 hr4
  go_wp2_with fail
  go_at_call 42
  refine ID.out _ _ ?_
  intro r5 w5 hg5 hr5
  have G5 := Lib.hid (G4.out.tr hg5)
  have R3 := Lib.hid (R3.out.gr hg5)
  have R4 := Lib.hid (R4.out.gr hg5)
  have R5 := Lib.hid hr5
  clear hg5 hr5
  go_wp2_with fail
  go_at_call 41
  refine mul_any _ _ 4 4 _ _ _ _ w5 R4.out R5.out (by omega) (by omega) ?_
  intro r6 w6 hg6 hr6
  have G6 := Lib.hid (G5.out.tr hg6)
  have R3 := Lib.hid (R3.out.gr hg6)
  obtain ⟨p6, A6, n6, c6, rfl⟩ := hr6.parts
  have R6 := Lib.hid hr6
  clear hg6 hr6
  go_wp2_with fail
  obtain ⟨wa, hwa⟩ : ∃ wa, wa = (w6.alloc (.cells #[.bool p3, .slice A3 n3 c3] 66)).alloc (.cells #[.bool p6, .slice A6 n6 c6] 66) := ⟨_, rfl⟩
  have GA : Hid (Grow w6 wa) := by subst hwa; exact ((Grow.refl w6).al _).al _
  have F0 : Hid (∀ W, Grow wa W → W.heap[w6.heap.size]? = some (.cells #[.bool p3, .slice A3 n3 c3] 66 (0, 0))) := fun W h => by
    subst hwa
    exact blk_al w6 _ _ (((Grow.refl _).al _).tr h)
  have F1 : Hid (∀ W, Grow wa W → W.heap[w6.heap.size + 1]? = some (.cells #[.bool p6, .slice A6 n6 c6] 66 (0, 0))) := fun W h => by
    subst hwa
    have := blk_al _ _ _ h
    rwa [World.size_alloc] at this
  rw [← hwa]
  clear hwa
  generalize hs : (a * b - c * d).sign = sgn at *
  have HS := Lib.hid hs
  clear hs
  refine wp_region_lexT (Grow wa) ((Grow.refl wa).dr) 17 [0, 1, 2, 3, 5, 6, 4, 7, 8, 9, 10, 11, 12, 13, 15, 16, 14] (by kernel_rfl) (by kernel_rfl) (by intro c a d v w h; cases d <;> exact h) ?_
  iterate 6 (apply lext_take; exact rfl; exact rfl; (intro W hW; have z0 := cell_of_row _ w6.heap.size 0 _ _ (0, 0) (F0.out _ hW); have z1 := cell_of_row _ w6.heap.size 1 _ _ (0, 0) (F0.out _ hW); have y0 := cell_of_row _ (w6.heap.size + 1) 0 _ _ (0, 0) (F1.out _ hW); have y1 := cell_of_row _ (w6.heap.size + 1) 1 _ _ (0, 0) (F1.out _ hW); (try clear hW); go_simp; with_reducible rfl); try simp only [Act.put, List.setIfInBounds_toArray, List.set_cons_zero, List.set_cons_succ])
  apply lext_turn; exact rfl; exact rfl; exact rfl; intro K hK; go_simp; go_at_call 51; refine WC.out _ _ ?_; intro w7 hg7
  have G7 := Lib.hid ((Grow.refl wa).dr.tr hg7)
  refine hK.out _ _ G7.out ?_
  clear hK hg7
  try simp only [Act.put, List.setIfInBounds_toArray, List.set_cons_zero, List.set_cons_succ]
  apply lext_turn; exact rfl; exact rfl; exact rfl; intro K hK; go_simp; go_at_call 45; refine cmp_any _ _ 8 8 _ _ _ _ w7 (R3.out.gr (GA.out.tr G7.out)) (R6.out.gr (GA.out.tr G7.out)) (by omega) (by omega) ?_; intro w8 hg8
  have G8 := Lib.hid (G7.out.tr hg8)
  refine hK.out _ _ G8.out ?_
  clear hK hg8
  simp only [HS.out]
  try simp only [Act.put, List.setIfInBounds_toArray, List.set_cons_zero, List.set_cons_succ]
  iterate 8 (apply lext_take; exact rfl; exact rfl; (intro W hW; have z0 := cell_of_row _ w6.heap.size 0 _ _ (0, 0) (F0.out _ hW); have z1 := cell_of_row _ w6.heap.size 1 _ _ (0, 0) (F0.out _ hW); have y0 := cell_of_row _ (w6.heap.size + 1) 0 _ _ (0, 0) (F1.out _ hW); have y1 := cell_of_row _ (w6.heap.size + 1) 1 _ _ (0, 0) (F1.out _ hW); (try clear hW); go_simp; with_reducible rfl); try simp only [Act.put, List.setIfInBounds_toArray, List.set_cons_zero, List.set_cons_succ])
  apply lext_turn; exact rfl; exact rfl; exact rfl; intro K hK; go_simp; go_at_call 52; refine WS.out _ _ ?_; intro w9 hg9
  have G9 := Lib.hid (G8.out.tr hg9)
  refine hK.out _ _ G9.out ?_
  clear hK hg9
  try simp only [Act.put, List.setIfInBounds_toArray, List.set_cons_zero, List.set_cons_succ]
  refine lext_nil ?_
  simp only [List.drop_succ_cons, List.drop_zero]
  go_wp2_with fail
  go_at_call 46
  refine sub_any _ _ 8 8 _ _ _ _ w9 (R3.out.gr (GA.out.tr G9.out)) (R6.out.gr (GA.out.tr G9.out)) (by omega) (by omega) ?_
  intro r10 w10 hg10 hr10
  have G10 := Lib.hid (G9.out.tr hg10)
  have R10 := Lib.hid hr10
  clear hg10 hr10
  go_wp2_with fail
  go_at_call 53
  refine sign_any _ _ _ _ w10 R10.out (by omega) ?_
  rw [HS.out]
  intro w11 hg11
  have G11 := Lib.hid (G10.out.tr hg11)
  clear hg11
  go_wp2_with fail
  go_at_call 40
  refine live22_any _ ?_
  intro w12 hg12
  have G12 := Lib.hid hg12
  clear hg12
  go_wp2
  exact HR.out _ (G6.out.tr (GA.out.tr (G11.out.tr G12.out)))
end Go.Proofs.Ythgibnmnjoniiaa
