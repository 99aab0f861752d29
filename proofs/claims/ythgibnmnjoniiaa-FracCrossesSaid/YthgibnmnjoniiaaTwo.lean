/-
  The laws' own helpers of chapter 22: live, code, two; WideMuls.
-/
import Derived.Test.YthgibnmnjoniiaaChecked
import Derived.Test.YthgibnmnjoniiaaMulDiv
import Derived.Test.YthgibnmnjoniiaaBigM
import Derived.Test.YthgibnmnjoniiaaFrac
namespace Go.Proofs.Ythgibnmnjoniiaa
open Go.RowKit Go.Lib B


theorem code22_any (n : Int) (w : World) {R : Ending → World → Prop} (hR : R (.returned (.int .i64 n)) w) :
    Calls Try.prog 39 #[.int .i64 n] w R := by
  go_enter Try.func39, Try.ntmps39
  go_wp2
  exact hR

set_option maxRecDepth 100000 in
set_option maxHeartbeats 1000000 in
theorem live22_any (w : World) {R : Ending → World → Prop} (hR : ∀ w', Grow w w' → R (.returned (.bool true)) w') :
    Calls Try.prog 40 #[] w R := by
  have HR := Lib.hid hR
  clear hR
  go_enter Try.func40, Try.ntmps40
  go_wp2_with fail
  go_at_call 38
  refine mulDiv_any (-7) 1 2 (by unfold I64; omega) (by unfold I64; omega) (by unfold I64; omega) _ ?_
  intro w1 q r e hg1 h
  have h2 : mdS (tmS (-7) 1) ((-7 : Int).natAbs * (1 : Int).natAbs) (2 : Int).natAbs (cmpI' 2 0) = (-4, 1, 0) := by decide
  rw [h2] at h
  simp only [Prod.mk.injEq] at h
  obtain ⟨rfl, rfl, rfl⟩ := h
  have G1 := Lib.hid hg1
  clear hg1 h2
  go_wp2_with fail
  go_at_call 39
  refine code22_any _ _ ?_
  go_wp2
  exact HR.out _ G1.out

set_option maxRecDepth 100000 in
set_option maxHeartbeats 2000000 in
theorem two_any (hi lo : Nat) (w : World) (h1 : hi < 18446744073709551616) (h2 : lo < 18446744073709551616) {R : Ending → World → Prop}
    (hR : ∀ r w', Grow w w' → BigR w' (fun b => w.heap.size ≤ b) r ((hi : Int) * 18446744073709551616 + lo) 13 → R (.returned r) w') :
    Calls Try.prog 44 #[.int .u64 hi, .int .u64 lo] w R := by
  have HR := Lib.hid hR
  clear hR
  obtain ⟨w0, hw0⟩ : ∃ w0, w0 = w.alloc (.cells #[.bool false, .slice none 0 0] 66) := ⟨_, rfl⟩
  have G0 : Hid (Grow w w0) := by subst hw0; exact (Grow.refl w).al _
  have F0 : Hid (∀ W, Grow w0 W → W.heap[w.heap.size]? = some (.cells #[.bool false, .slice none 0 0] 66 (0, 0))) := fun W h => by subst hw0; exact blk_al _ _ _ h
  have S0 : Hid (w0.heap.size = w.heap.size + 1) := by subst hw0; exact World.size_alloc _ _
  go_enter Try.func44, Try.ntmps44
  go_wp2_with fail
  rw [← hw0]
  clear hw0
  go_at_call 47
  refine word_any 4294967296 _ (by omega) ?_
  intro r1 w1 hg1 hr1
  have G1 := Lib.hid hg1
  have R1 := Lib.hid hr1
  clear hg1 hr1
  go_wp2_with fail
  go_at_call 47
  refine word_any 4294967296 _ (by omega) ?_
  intro r2 w2 hg2 hr2
  have G2 := Lib.hid (G1.out.tr hg2)
  have R1 := Lib.hid (R1.out.gr hg2)
  have R2 := Lib.hid hr2
  clear hg2 hr2
  go_wp2_with fail
  go_at_call 41
  refine mul_any _ _ 4 4 _ _ _ _ w2 R1.out R2.out (by omega) (by omega) ?_
  intro r3 w3 hg3 hr3
  rw [show (((4294967296 : Nat) : Int) * ((4294967296 : Nat) : Int)) = 18446744073709551616 by decide] at hr3
  obtain ⟨p3, A3, n3, c3, rfl⟩ := hr3.parts
  have G3 := Lib.hid (G2.out.tr hg3)
  have R3 := Lib.hid hr3
  clear hg3 hr3
  go_wp2_with fail
  obtain ⟨wa, hwa⟩ : ∃ wa, wa = w3.alloc (.cells #[.bool p3, .slice A3 n3 c3] 66) := ⟨_, rfl⟩
  have GA : Hid (Grow w3 wa) := by subst hwa; exact (Grow.refl w3).al _
  have FA : Hid (∀ W, Grow wa W → W.heap[w3.heap.size]? = some (.cells #[.bool p3, .slice A3 n3 c3] 66 (0, 0))) := fun W h => by subst hwa; exact blk_al _ _ _ h
  rw [← hwa]
  clear hwa
  have GA0 := Lib.hid (G3.out.tr GA.out)
  refine wp_region_lexT (Grow wa) ((Grow.refl wa).dr) 5 [0, 2, 4, 1, 3] (by kernel_rfl) (by kernel_rfl) (by intro c a d v w h; cases d <;> exact h) ?_
  iterate 3 (apply lext_take; exact rfl; exact rfl; (intro W hW; have z0 := cell_of_row _ w3.heap.size 0 _ _ (0, 0) (FA.out _ hW); have z1 := cell_of_row _ w3.heap.size 1 _ _ (0, 0) (FA.out _ hW); (try clear hW); go_simp; with_reducible rfl); try simp only [Act.put, List.setIfInBounds_toArray, List.set_cons_zero, List.set_cons_succ])
  apply lext_turn; exact rfl; exact rfl; exact rfl; intro K hK; go_simp; go_at_call 47; refine word_any hi _ h1 ?_; intro r4 w4 hg4 hr4
  have G4 := Lib.hid ((Grow.refl wa).dr.tr hg4)
  have R4 := Lib.hid hr4
  refine hK.out _ _ G4.out ?_
  clear hK hg4 hr4
  try simp only [Act.put, List.setIfInBounds_toArray, List.set_cons_zero, List.set_cons_succ]
  apply lext_turn; exact rfl; exact rfl; exact rfl; intro K hK; go_simp; go_at_call 41; refine mul_any _ _ 4 8 _ _ _ _ w4 R4.out (R3.out.gr (GA.out.tr G4.out)) (by omega) (by omega) ?_; intro r5 w5 hg5 hr5
  have G5 := Lib.hid (G4.out.tr hg5)
  have R5 := Lib.hid hr5
  refine hK.out _ _ G5.out ?_
  clear hK hg5 hr5
  try simp only [Act.put, List.setIfInBounds_toArray, List.set_cons_zero, List.set_cons_succ]
  refine lext_nil ?_
  simp only [List.drop_succ_cons, List.drop_zero]
  go_wp2_with fail
  go_at_call 47
  refine word_any lo _ h2 ?_
  intro r6 w6 hg6 hr6
  have G6 := Lib.hid (G5.out.tr hg6)
  have R5 := Lib.hid (R5.out.gr hg6)
  have R6 := Lib.hid hr6
  clear hg6 hr6
  go_wp2_with fail
  go_at_call 90
  refine add_any _ _ 12 4 _ _ _ _ w6 R5.out R6.out (by omega) (by omega) ?_
  intro r w7 hg7 hr
  have G7 := Lib.hid (GA0.out.tr (G6.out.tr hg7))
  have hb3 := F0.out _ G7.out
  have SZ6 : Hid (∀ b, w6.heap.size ≤ b → w.heap.size + 1 ≤ b) := fun b hb => by have := (GA0.out.tr G6.out).size; have := S0.out; omega
  clear hg7
  obtain ⟨hk3, m3, rfl, hm3⟩ := hr
  obtain ⟨A3, c3, rfl, g31, g32⟩ := rd_slice hm3
  have HM3 := Lib.hid hm3
  generalize hn3 : (wds (((hi : Int) * 18446744073709551616 + lo)).natAbs).length = n3 at *
  have HN3 := Lib.hid hn3
  have HK3 := Lib.hid hk3
  clear hm3 hk3 hn3
  generalize hq : decide (((hi : Int) * 18446744073709551616 + lo) < 0) = q3 at *
  have HQ := Lib.hid hq
  clear hq
  have c0 := cell_of_row _ (w.heap.size) 0 _ _ (0, 0) hb3
  have f0 := frozen_of_row _ (w.heap.size) 0 _ _ hb3
  have b1 := blk_set hb3 0 (.bool q3)
  have c1 := cell_of_row _ (w.heap.size) 1 _ _ (0, 0) b1
  have f1 := frozen_of_row _ (w.heap.size) 1 _ _ b1
  have b2 := blk_set b1 1 (.slice A3 n3 c3)
  have r0 := cell_of_row _ (w.heap.size) 0 _ _ (0, 0) b2
  have r1 := cell_of_row _ (w.heap.size) 1 _ _ (0, 0) b2
  simp only [List.setIfInBounds_toArray, List.set_cons_zero, List.set_cons_succ] at c0 c1 r0 r1
  clear b1 b2
  clear hb3
  go_wp2
  refine bodyPost_ret (v := .agg #[.bool q3, .slice A3 n3 c3]) (by simp [results, Try.f44, go_sem, r0, r1]) rfl (HR.out _ _ ?_ ?_)
  · exact grow_set2 (Nat.le_refl _) (G0.out.tr G7.out) _ _
  · refine ⟨by rw [HN3.out]; exact HK3.out, _, by rw [HQ.out], ?_⟩
    rw [HN3.out]
    exact ((HM3.out.set (fun b hb => by have := SZ6.out b hb; omega) _).set (fun b hb => by have := SZ6.out b hb; omega) _).into fun b hb => by have := SZ6.out b hb; omega
end Go.Proofs.Ythgibnmnjoniiaa
