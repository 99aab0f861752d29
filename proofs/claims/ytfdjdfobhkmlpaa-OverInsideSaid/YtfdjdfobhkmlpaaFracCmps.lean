import Derived.Test.YtfdjdfobhkmlpaaChecked
import Derived.Test.YtfdjdfobhkmlpaaPtsA
import Derived.Test.YtfdjdfobhkmlpaaFracMakes
import Derived.Test.YtfdjdfobhkmlpaaFracW
namespace Go.Proofs.Ytfdjdfobhkmlpaa
open Go.RowKit Go.Lib B

theorem cmp_whole {q n : Int} {r d : Nat} (hr : r < d) : ((q * d + r) * 1 - n * (d : Int)).sign = orL [cmpI' q n, cmpI' (r : Int) 0] := by
  rw [Int.mul_one, ← sgnC]
  have e : (q * (d : Int) + r - n * d) = (q - n) * d + r := by rw [Int.sub_mul]; omega
  rw [e]
  rcases Int.lt_trichotomy q n with h | h | h
  · have h1 : (q - n) * (d : Int) ≤ -1 * d := Int.mul_le_mul_of_nonneg_right (by omega) (by omega)
    rw [cmpI'_lt h, cmpI'_lt (show (q - n) * (d : Int) + r < 0 by omega)]; rfl
  · subst h
    rw [Int.sub_self, Int.zero_mul, Int.zero_add, cmpI'_eq rfl]
    simp only [orL, ne_eq, not_true_eq_false, if_false]
    by_cases h0 : cmpI' (r : Int) 0 = 0
    · rw [h0]; rfl
    · rw [if_pos h0]
  · have h1 : 1 * (d : Int) ≤ (q - n) * d := Int.mul_le_mul_of_nonneg_right (by omega) (by omega)
    rw [cmpI'_gt h, cmpI'_gt (show 0 < (q - n) * (d : Int) + r by omega)]; rfl
theorem sign_le {x : Int} (h : x ≤ 0) : x.sign ≤ 0 := by
  rw [← sgnC]; unfold cmpI'; split <;> (try split) <;> omega
theorem sign_lt {x : Int} (h : x < 0) : x.sign < 0 := by rw [Int.sign_eq_neg_one_of_neg h]; decide
theorem near_round {q : Int} {r d : Nat} (hr : r < d) : (decide ((((if d ≤ 2 * r then q + 1 else q) * 2 + -1 * 1) * (d : Int) - (q * d + r) * (1 * 2)).sign ≤ 0) && decide (((q * (d : Int) + r) * (1 * 2) - ((if d ≤ 2 * r then q + 1 else q) * 2 + 1 * 1) * (d : Int)).sign < 0)) = true := by
  have e0 : q * 2 * (d : Int) = 2 * (q * d) := by rw [Int.mul_right_comm, Int.mul_comm]
  have e2 : (q + 1) * 2 * (d : Int) = 2 * (q * d) + 2 * d := by rw [Int.mul_right_comm, Int.add_mul]; omega
  rw [Bool.and_eq_true, decide_eq_true_eq, decide_eq_true_eq]
  by_cases h : d ≤ 2 * r
  · rw [if_pos h]
    refine ⟨sign_le ?_, sign_lt ?_⟩
    · rw [Int.add_mul ((q + 1) * 2), e2]
      omega
    · rw [Int.add_mul ((q + 1) * 2), e2]
      omega
  · rw [if_neg h]
    refine ⟨sign_le ?_, sign_lt ?_⟩
    · rw [Int.add_mul (q * 2), e0]
      omega
    · rw [Int.add_mul (q * 2), e0]
      omega

set_option maxRecDepth 100000 in
set_option maxHeartbeats 2000000 in
theorem fcmp_any (f : Fr) (n : Int) (w : World) (hf : f.ok) {R : Ending → World → Prop} (hR : ∀ w', Grow w w' → R (.returned (.int .i64 (if f.right = true then orL [cmpI' f.q n, cmpI' (f.r : Int) 0] else 0))) w') :
    Calls Try.prog 73 #[.agg f.cells.toArray, .int .i64 n] w R := by
  have HR := Lib.hid hR
  clear hR
  have FR := Lib.hid fun W (R : Ending → World → Prop) hR => right_any f W hf (R := R) hR
  obtain ⟨ok, hok⟩ : ∃ ok, f.right = ok := ⟨_, rfl⟩
  rw [hok] at FR HR
  clear hok hf
  obtain ⟨q, r, d⟩ := f
  unfold Fr.cells at FR ⊢
  dsimp only at FR HR ⊢
  obtain ⟨w0, hw0⟩ : ∃ w0, w0 = w.alloc (.cells #[.int .i64 q, .int .u64 (r : Nat), .int .u64 (d : Nat)] 89) := ⟨_, rfl⟩
  have G0 : Hid (Grow w w0) := by subst hw0; exact (Grow.refl w).al _
  have F0 : Hid (∀ W, Grow w0 W → W.heap[w.heap.size]? = some (.cells #[.int .i64 q, .int .u64 (r : Nat), .int .u64 (d : Nat)] 89 (0, 0))) := fun W h => by subst hw0; exact blk_al _ _ _ h
  cases ok with
  | false =>
    simp only [Bool.false_eq_true, if_false] at HR
    go_enter Try.func73, Try.ntmps73
    go_wp2_with fail
    rw [← hw0]
    clear hw0
    go_at_call 72
    refine FR.out _ _ ?_
    intro w1 hg1
    have G1 := Lib.hid (G0.out.tr hg1)
    clear hg1
    go_wp2
    exact HR.out _ G1.out
  | true =>
    simp only [if_true] at HR
    have C1 := Lib.hid fun W (R : Ending → World → Prop) hR => cmpI_any q n W (R := R) hR
    have C2 := Lib.hid fun W (R : Ending → World → Prop) hR => cmpU_any (r : Int) 0 W (R := R) hR
    have OR := Lib.hid fun v S W h (R : Ending → World → Prop) hR => or_any [cmpI' q n, cmpI' (r : Int) 0] v S W h (by simp) (R := R) hR
    generalize orL [cmpI' q n, cmpI' (r : Int) 0] = m at *
    generalize cmpI' q n = x1 at *
    generalize cmpI' (r : Int) 0 = x0 at *
    go_enter Try.func73, Try.ntmps73
    go_wp2_with fail
    rw [← hw0]
    clear hw0
    go_at_call 72
    refine FR.out _ _ ?_
    intro w1 hg1
    have G1 := Lib.hid hg1
    clear hg1
    go_wp2_with fail
    refine wp_region_lexT (Grow w1) ((Grow.refl w1).dr) 6 [0, 1, 2, 4, 5, 3] (by kernel_rfl) (by kernel_rfl) (by intro c a d v w h; cases d <;> exact h) ?_
    iterate 5 (apply lext_take; exact rfl; exact rfl; (intro W hW; have z0 := cell_of_row _ w.heap.size 0 _ _ (0, 0) (F0.out _ (G1.out.tr hW)); have z1 := cell_of_row _ w.heap.size 1 _ _ (0, 0) (F0.out _ (G1.out.tr hW)); (try clear hW); go_simp; with_reducible rfl); try simp only [Act.put, List.setIfInBounds_toArray, List.set_cons_zero, List.set_cons_succ])
    apply lext_turn; exact rfl; exact rfl; exact rfl; intro K hK; go_simp; go_at_call 33; refine C1.out _ _ ?_; refine hK.out _ _ (Grow.refl w1).dr ?_; clear hK
    try simp only [Act.put, List.setIfInBounds_toArray, List.set_cons_zero, List.set_cons_succ]
    refine lext_nil ?_
    simp only [List.drop_succ_cons, List.drop_zero]
    go_wp2_with fail
    go_at_call 81
    refine C2.out _ _ ?_
    go_wp2_with fail
    go_at_call 80
    refine OR.out _ _ _ ((Rd.lit w1 #[.int .i64 x1, .int .i64 x0] 3 2 (by decide) rfl).gr2 (by decide) (Grow.refl _).dr) _ ?_
    go_wp2
    exact HR.out _ ((G0.out.tr G1.out).tr ((Grow.refl w1).al _).dr)

end Go.Proofs.Ytfdjdfobhkmlpaa
