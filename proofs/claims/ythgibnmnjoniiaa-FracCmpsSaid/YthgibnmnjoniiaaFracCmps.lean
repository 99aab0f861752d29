import Derived.Test.YthgibnmnjoniiaaChecked
import Derived.Test.YthgibnmnjoniiaaNear
import Derived.Test.YthgibnmnjoniiaaFracMakes
import Derived.Test.YthgibnmnjoniiaaWideCmps
namespace Go.Proofs.Ythgibnmnjoniiaa
open Go.RowKit Go.Lib B

theorem cmp_whole {q n : Int} {r d : Nat} (hr : r < d) : ((q * d + r) * 1 - n * (d : Int)).sign = orL [cmpI' q n, cmpI' (r : Int) 0] := by
  rw [Int.mul_one, ← sgnC]
  have e : (q * (d : Int) + r - n * d) = (q - n) * d + r := by rw [Int.sub_mul]; omega
  rw [e]
  rcases Int.lt_trichotomy q n with h | h | h
  · have h1 : (q - n) * (d : Int) ≤ -1 * d := Int.mul_le_mul_of_nonneg_right (by omega) (by omega)
    rw [cmpI'_lt h, cmpI'_lt (show (q - n) * (d : Int) + r < 0 by omega)]; rfl
  · subst h
    rw [Int.sub_self, Int.zero_mul, Int.zero_add, cmpI'_eq rfl]
    simp only [orL, ne_eq, not_true_eq_false, if_false]
    by_cases h0 : cmpI' (r : Int) 0 = 0
    · rw [h0]; rfl
    · rw [if_pos h0]
  · have h1 : 1 * (d : Int) ≤ (q - n) * d := Int.mul_le_mul_of_nonneg_right (by omega) (by omega)
    rw [cmpI'_gt h, cmpI'_gt (show 0 < (q - n) * (d : Int) + r by omega)]; rfl
theorem sign_le {x : Int} (h : x ≤ 0) : x.sign ≤ 0 := by
  rw [← sgnC]; unfold cmpI'; split <;> (try split) <;> omega
theorem sign_lt {x : Int} (h : x < 0) : x.sign < 0 := by rw [Int.sign_eq_neg_one_of_neg h]; decide
theorem near_round {q : Int} {r d : Nat} (hr : r < d) : (decide ((((if d ≤ 2 * r then q + 1 else q) * 2 + -1 * 1) * (d : Int) - (q * d + r) * (1 * 2)).sign ≤ 0) && decide (((q * (d : Int) + r) * (1 * 2) - ((if d ≤ 2 * r then q + 1 else q) * 2 + 1 * 1) * (d : Int)).sign < 0)) = true := by
  have e0 : q * 2 * (d : Int) = 2 * (q * d) := by rw [Int.mul_right_comm, Int.mul_comm]
  have e2 : (q + 1) * 2 * (d : Int) = 2 * (q * d) + 2 * d := by rw [Int.mul_right_comm, Int.add_mul]; omega
  rw [Bool.and_eq_true, decide_eq_true_eq, decide_eq_true_eq]
  by_cases h : d ≤ 2 * r
  · rw [if_pos h]
    refine ⟨sign_le ?_, sign_lt ?_⟩
    · rw [Int.add_mul ((q + 1) * 2), e2]
      omega
    · rw [Int.add_mul ((q + 1) * 2), e2]
      omega
  · rw [if_neg h]
    refine ⟨sign_le ?_, sign_lt ?_⟩
    · rw [Int.add_mul (q * 2), e0]
      omega
    · rw [Int.add_mul (q * 2), e0]
      omega

set_option maxRecDepth 100000 in
set_option maxHeartbeats 2000000 in
theorem fcmp_any (f : Fr) (n : Int) (w : World) (hf : f.ok) {R : Ending → World → Prop} (hR : ∀ w', Grow w w' → R (.returned (.int .i64 (if f.right = true then orL [cmpI' f.q n, cmpI' (f.r : Int) 0] else 0))) w') :
    Calls Try.prog 65 #[.agg f.cells.toArray, .int .i64 n] w R := by
  have HR := Lib.hid hR
  clear hR
  have FR := Lib.hid fun W (R : Ending → World → Prop) hR => right_any f W hf (R := R) hR
  obtain ⟨ok, hok⟩ : ∃ ok, f.right = ok := ⟨_, rfl⟩
  rw [hok] at FR HR
  clear hok hf
  obtain ⟨q, r, d⟩ := f
  unfold Fr.cells at FR ⊢
  dsimp only at FR HR ⊢
  obtain ⟨w0, hw0⟩ : ∃ w0, w0 = w.alloc (.cells #[.int .i64 q, .int .u64 (r : Nat), .int .u64 (d : Nat)] 33) := ⟨_, rfl⟩
  have G0 : Hid (Grow w w0) := by subst hw0; exact (Grow.refl w).al _
  have F0 : Hid (∀ W, Grow w0 W → W.heap[w.heap.size]? = some (.cells #[.int .i64 q, .int .u64 (r : Nat), .int .u64 (d : Nat)] 33 (0, 0))) := fun W h => by subst hw0; exact blk_al _ _ _ h
  cases ok with
  | false =>
    simp only [Bool.false_eq_true, if_false] at HR
    go_enter Try.func65, Try.ntmps65
    go_wp2_with fail
    rw [← hw0]
    clear hw0
    go_at_call 62
    refine FR.out _ _ ?_
    intro w1 hg1
    have G1 := Lib.hid (G0.out.tr hg1)
    clear hg1
    go_wp2
    exact HR.out _ G1.out
  | true =>
    simp only [if_true] at HR
    have C1 := Lib.hid fun W (R : Ending → World → Prop) hR => cmpI_any q n W (R := R) hR
    have C2 := Lib.hid fun W (R : Ending → World → Prop) hR => cmpU_any (r : Int) 0 W (R := R) hR
    have OR := Lib.hid fun v S W h (R : Ending → World → Prop) hR => or_any [cmpI' q n, cmpI' (r : Int) 0] v S W h (by simp) (R := R) hR
    generalize orL [cmpI' q n, cmpI' (r : Int) 0] = m at *
    generalize cmpI' q n = x1 at *
    generalize cmpI' (r : Int) 0 = x0 at *
    go_enter Try.func65, Try.ntmps65
    go_wp2_with fail
    rw [← hw0]
    clear hw0
    go_at_call 62
    refine FR.out _ _ ?_
    intro w1 hg1
    have G1 := Lib.hid hg1
    clear hg1
    go_wp2_with fail
    refine wp_region_lexT (Grow w1) ((Grow.refl w1).dr) 6 [0, 1, 2, 4, 5, 3] (by kernel_rfl) (by kernel_rfl) (by intro c a d v w h; cases d <;> exact h) ?_
    iterate 5 (apply lext_take; exact rfl; exact rfl; (intro W hW; have z0 := cell_of_row _ w.heap.size 0 _ _ (0, 0) (F0.out _ (G1.out.tr hW)); have z1 := cell_of_row _ w.heap.size 1 _ _ (0, 0) (F0.out _ (G1.out.tr hW)); (try clear hW); go_simp; with_reducible rfl); try simp only [Act.put, List.setIfInBounds_toArray, List.set_cons_zero, List.set_cons_succ])
    apply lext_turn; exact rfl; exact rfl; exact rfl; intro K hK; go_simp; go_at_call 80; refine C1.out _ _ ?_; refine hK.out _ _ (Grow.refl w1).dr ?_; clear hK
    try simp only [Act.put, List.setIfInBounds_toArray, List.set_cons_zero, List.set_cons_succ]
    refine lext_nil ?_
    simp only [List.drop_succ_cons, List.drop_zero]
    go_wp2_with fail
    go_at_call 93
    refine C2.out _ _ ?_
    go_wp2_with fail
    go_at_call 92
    refine OR.out _ _ _ ((Rd.lit w1 #[.int .i64 x1, .int .i64 x0] 3 2 (by decide) rfl).gr2 (by decide) (Grow.refl _).dr) _ ?_
    go_wp2
    exact HR.out _ ((G0.out.tr G1.out).tr ((Grow.refl w1).al _).dr)

set_option maxRecDepth 100000 in
set_option maxHeartbeats 8000000 in
theorem fracCmps_walk (f : Fr) (n : Int) (w : World) (hf : f.ok) (hn : I64 n) {R : Ending → World → Prop} (hR : ∀ w', Grow w w' → R (.returned (.bool true)) w') :
    Calls Try.prog 14 #[.agg f.cells.toArray, .int .i64 n] w R := by
  have HR := Lib.hid hR
  clear hR
  have RR := Lib.hid fun W (R : Ending → World → Prop) hR => rright_any f W hf (R := R) hR
  have FC := Lib.hid fun W (R : Ending → World → Prop) hR => fcmp_any f n W hf (R := R) hR
  have FO := Lib.hid fun W (R : Ending → World → Prop) hR => fround_any f W hf (R := R) hR
  have RA := Lib.hid fun W (R : Ending → World → Prop) hR => rat23_any f W hf (R := R) hR
  unfold Fr.round at FO
  obtain ⟨ok, hok⟩ : ∃ ok, f.right = ok := ⟨_, rfl⟩
  have ri := @Fr.right_iff f
  rw [hok] at RR FC FO ri
  clear hok
  obtain ⟨q, r, d⟩ := f
  unfold Fr.cells at RR FC FO RA ⊢
  dsimp only at RR FC FO RA ri ⊢
  obtain ⟨w0, hw0⟩ : ∃ w0, w0 = w.alloc (.cells #[.int .i64 q, .int .u64 (r : Nat), .int .u64 (d : Nat)] 33) := ⟨_, rfl⟩
  have G0 : Hid (Grow w w0) := by subst hw0; exact (Grow.refl w).al _
  have F0 : Hid (∀ W, Grow w0 W → W.heap[w.heap.size]? = some (.cells #[.int .i64 q, .int .u64 (r : Nat), .int .u64 (d : Nat)] 33 (0, 0))) := fun W h => by subst hw0; exact blk_al _ _ _ h
  cases ok with
  | false =>
    simp only [Bool.false_eq_true, if_false] at FC FO
    clear ri
    go_enter Try.func14, Try.ntmps14
    go_wp2_with fail
    rw [← hw0]
    clear hw0
    go_at_call 63
    refine RR.out _ _ ?_
    intro w1 hg1
    have G1 := Lib.hid hg1
    clear hg1
    have z0 := cell_of_row _ w.heap.size 0 _ _ (0, 0) (F0.out _ (G1.out))
    have z1 := cell_of_row _ w.heap.size 1 _ _ (0, 0) (F0.out _ (G1.out))
    have z2 := cell_of_row _ w.heap.size 2 _ _ (0, 0) (F0.out _ (G1.out))
    go_wp2_with fail
    clear z0 z1 z2
    go_at_call 65
    refine FC.out _ _ ?_
    intro w2 hg2
    have G2 := Lib.hid (G1.out.tr hg2)
    clear hg2
    have z0 := cell_of_row _ w.heap.size 0 _ _ (0, 0) (F0.out _ (G2.out))
    have z1 := cell_of_row _ w.heap.size 1 _ _ (0, 0) (F0.out _ (G2.out))
    have z2 := cell_of_row _ w.heap.size 2 _ _ (0, 0) (F0.out _ (G2.out))
    go_wp2_with fail
    clear z0 z1 z2
    go_at_call 66
    refine FO.out _ _ ?_
    intro w3 hg3
    have G3 := Lib.hid (G0.out.tr (G2.out.tr hg3))
    clear hg3
    go_wp2_with fail
    go_at_call 57
    refine live23_any _ ?_
    intro w99 hg99
    have HG99 := Lib.hid hg99
    clear hg99
    go_wp2
    exact HR.out _ ((G3.out).tr HG99.out)
  | true =>
    simp only [if_true] at FC FO
    obtain ⟨⟨q1, q2⟩, d1, d2, hrd, -⟩ := ri rfl
    have CW := Lib.hid (cmp_whole (q := q) (n := n) hrd)
    have NR := Lib.hid (near_round (q := q) hrd)
    obtain ⟨m, hm⟩ : ∃ m, (if d ≤ 2 * r then q + 1 else q) = m := ⟨_, rfl⟩
    have hmi : I64 m := by rw [← hm]; unfold I64; split <;> constructor <;> omega
    rw [hm] at FO NR
    obtain ⟨cc, hcc⟩ : ∃ cc, orL [cmpI' q n, cmpI' (r : Int) 0] = cc := ⟨_, rfl⟩
    rw [hcc] at FC CW
    clear hm hcc ri
    go_enter Try.func14, Try.ntmps14
    go_wp2_with fail
    rw [← hw0]
    clear hw0
    go_at_call 63
    refine RR.out _ _ ?_
    intro w1 hg1
    have G1 := Lib.hid hg1
    clear hg1
    have z0 := cell_of_row _ w.heap.size 0 _ _ (0, 0) (F0.out _ (G1.out))
    have z1 := cell_of_row _ w.heap.size 1 _ _ (0, 0) (F0.out _ (G1.out))
    have z2 := cell_of_row _ w.heap.size 2 _ _ (0, 0) (F0.out _ (G1.out))
    go_wp2_with fail
    clear z0 z1 z2
    go_at_call 67
    refine RA.out _ _ ?_
    intro rv w2 hg2 hrv
    obtain ⟨p, A, x, c, p', A', x', c', rfl, hv1, hv2⟩ := hrv
    have G2 := Lib.hid (G1.out.tr hg2)
    have RV := Lib.hid (show RatR w2 (fun b => w1.heap.size ≤ b) (.agg #[.bool p, .slice A x c, .bool p', .slice A' x' c']) (q * d + r) d 9 4 from ⟨_, _, _, _, _, _, _, _, rfl, hv1, hv2⟩)
    clear hg2 hv1 hv2
    go_wp2_with fail
    obtain ⟨wa, hwa⟩ : ∃ wa, wa = w2.alloc (.cells #[.bool p, .slice A x c, .bool p', .slice A' x' c'] 86) := ⟨_, rfl⟩
    have GA : Hid (Grow w2 wa) := by subst hwa; exact (Grow.refl w2).al _
    have FV : Hid (∀ W, Grow wa W → W.heap[w2.heap.size]? = some (.cells #[.bool p, .slice A x c, .bool p', .slice A' x' c'] 86 (0, 0))) := fun W h => by subst hwa; exact blk_al _ _ _ h
    rw [← hwa]
    clear hwa
    have G2 := Lib.hid (G2.out.tr GA.out)
    have RV := Lib.hid (RV.out.gr GA.out)
    refine wp_region_lexT (Grow wa) ((Grow.refl wa).dr) 12 [0, 1, 3, 4, 2, 5, 6, 7, 8, 9, 11, 10] (by kernel_rfl) (by kernel_rfl) (by intro c a d v w h; cases d <;> exact h) ?_
    iterate 4 (apply lext_take; exact rfl; exact rfl; (intro W hW; have z0 := cell_of_row _ w.heap.size 0 _ _ (0, 0) (F0.out _ (G2.out.tr hW)); have z1 := cell_of_row _ w.heap.size 1 _ _ (0, 0) (F0.out _ (G2.out.tr hW)); have z2 := cell_of_row _ w.heap.size 2 _ _ (0, 0) (F0.out _ (G2.out.tr hW)); have y0 := cell_of_row _ w2.heap.size 0 _ _ (0, 0) (FV.out _ hW); have y1 := cell_of_row _ w2.heap.size 1 _ _ (0, 0) (FV.out _ hW); have y2 := cell_of_row _ w2.heap.size 2 _ _ (0, 0) (FV.out _ hW); have y3 := cell_of_row _ w2.heap.size 3 _ _ (0, 0) (FV.out _ hW); (try clear hW); go_simp; with_reducible rfl); try simp only [Act.put, List.setIfInBounds_toArray, List.set_cons_zero, List.set_cons_succ])
    apply lext_turn; exact rfl; exact rfl; exact rfl; intro K hK; go_simp; go_at_call 65; refine FC.out _ _ ?_; intro v1 hv1
    have V1 := Lib.hid ((Grow.refl wa).dr.tr hv1)
    refine hK.out _ _ V1.out ?_
    clear hK hv1
    try simp only [Act.put, List.setIfInBounds_toArray, List.set_cons_zero, List.set_cons_succ]
    apply lext_turn; exact rfl; exact rfl; exact rfl; intro K hK; go_simp; go_at_call 69; refine whole_any n _ hn ?_; intro rw v2 hv2 hrw
    have V2 := Lib.hid (V1.out.tr hv2)
    have RW := Lib.hid hrw
    refine hK.out _ _ V2.out ?_
    clear hK hv2 hrw
    try simp only [Act.put, List.setIfInBounds_toArray, List.set_cons_zero, List.set_cons_succ]
    apply lext_turn; exact rfl; exact rfl; exact rfl; intro K hK; go_simp; go_at_call 68; refine order_any _ _ _ _ 9 4 4 4 _ _ _ _ v2 (RV.out.gr V2.out) RW.out (by omega) (by omega) (by omega) (by omega) ?_; rw [CW.out]; intro v3 hv3
    have V3 := Lib.hid (V2.out.tr hv3)
    refine hK.out _ _ V3.out ?_
    clear hK hv3
    try simp only [Act.put, List.setIfInBounds_toArray, List.set_cons_zero, List.set_cons_succ]
    iterate 4 (apply lext_take; exact rfl; exact rfl; (intro W hW; have z0 := cell_of_row _ w.heap.size 0 _ _ (0, 0) (F0.out _ (G2.out.tr hW)); have z1 := cell_of_row _ w.heap.size 1 _ _ (0, 0) (F0.out _ (G2.out.tr hW)); have z2 := cell_of_row _ w.heap.size 2 _ _ (0, 0) (F0.out _ (G2.out.tr hW)); have y0 := cell_of_row _ w2.heap.size 0 _ _ (0, 0) (FV.out _ hW); have y1 := cell_of_row _ w2.heap.size 1 _ _ (0, 0) (FV.out _ hW); have y2 := cell_of_row _ w2.heap.size 2 _ _ (0, 0) (FV.out _ hW); have y3 := cell_of_row _ w2.heap.size 3 _ _ (0, 0) (FV.out _ hW); (try clear hW); go_simp; with_reducible rfl); try simp only [Act.put, List.setIfInBounds_toArray, List.set_cons_zero, List.set_cons_succ])
    apply lext_turn; exact rfl; exact rfl; exact rfl; intro K hK; go_simp; go_at_call 66; refine FO.out _ _ ?_; intro v4 hv4
    have V4 := Lib.hid (V3.out.tr hv4)
    refine hK.out _ _ V4.out ?_
    clear hK hv4
    try simp only [Act.put, List.setIfInBounds_toArray, List.set_cons_zero, List.set_cons_succ]
    refine lext_nil ?_
    simp only [List.drop_succ_cons, List.drop_zero]
    go_wp2_with fail
    go_at_call 70
    refine near_any m _ _ 9 4 _ _ v4 hmi (RV.out.gr V4.out) (by omega) (by omega) ?_
    rw [NR.out]
    intro v5 hv5
    have V5 := Lib.hid ((G0.out.tr G2.out).tr (V4.out.tr hv5))
    clear hv5
    go_wp2_with fail
    go_at_call 57
    refine live23_any _ ?_
    intro w99 hg99
    have HG99 := Lib.hid hg99
    clear hg99
    go_wp2
    exact HR.out _ ((V5.out).tr HG99.out)
end Go.Proofs.Ythgibnmnjoniiaa
