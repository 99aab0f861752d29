/-
  Order, Plus, Minus of fractions.
-/
import Derived.Test.YtjcgkhcbdbbdkaaChecked
import Derived.Test.YtjcgkhcbdbbdkaaRat
namespace Go.Proofs.Ytjcgkhcbdbbdkaa
open Go.RowKit Go.Lib B

set_option maxRecDepth 100000 in
set_option maxHeartbeats 2000000 in
theorem order_any (n1 e1 n2 e2 : Int) (k1 j1 k2 j2 : Nat) (a b : Value) (S T : Nat → Prop) (w : World) (ha : RatR w S a n1 e1 k1 j1) (hb : RatR w T b n2 e2 k2 j2) (hk1 : k1 ≤ 1000) (hk2 : k2 ≤ 1000) (hj1 : j1 ≤ 1000) (hj2 : j2 ≤ 1000) {R : Ending → World → Prop}
    (hR : ∀ w', Grow w w' → R (.returned (.int .i64 (n1 * e2 - n2 * e1).sign)) w') :
    Calls Try.prog 29 #[a, b] w R := by
  have HR := Lib.hid hR
  clear hR
  obtain ⟨p, A, x, c, p', A', x', c', rfl, ha1, ha2⟩ := ha
  obtain ⟨q, B, y, d, q', B', y', d', rfl, hb1, hb2⟩ := hb
  have HA1 := Lib.hid ha1
  have HA2 := Lib.hid ha2
  have HB1 := Lib.hid hb1
  have HB2 := Lib.hid hb2
  clear ha1 ha2 hb1 hb2
  obtain ⟨wa, hwa⟩ : ∃ wa, wa = (w.alloc (.cells #[.bool p, .slice A x c, .bool p', .slice A' x' c'] 35)).alloc (.cells #[.bool q, .slice B y d, .bool q', .slice B' y' d'] 35) := ⟨_, rfl⟩
  have K0 : Hid (∀ W, Grow wa W → W.heap[w.heap.size]? = some (.cells #[.bool p, .slice A x c, .bool p', .slice A' x' c'] 35 (0, 0))) := fun W h => by
    subst hwa
    exact blk_al w _ _ (((Grow.refl _).al _).tr h)
  have K1 : Hid (∀ W, Grow wa W → W.heap[w.heap.size + 1]? = some (.cells #[.bool q, .slice B y d, .bool q', .slice B' y' d'] 35 (0, 0))) := fun W h => by
    subst hwa
    have := blk_al _ _ _ h
    rwa [World.size_alloc] at this
  have GA : Hid (Grow w wa) := by subst hwa; exact ((Grow.refl w).al _).al _
  go_enter Try.func29, Try.ntmps29
  go_wp2_with fail
  rw [← hwa]
  clear hwa
  refine wp_region_lexT (Grow wa) ((Grow.refl wa).dr) 9 [0, 1, 2, 3, 5, 6, 7, 8, 4] (by kernel_rfl) (by kernel_rfl) (by intro c a d v w h; cases d <;> exact h) ?_
  iterate 8 (apply lext_take; exact rfl; exact rfl; (intro W hW; have z0 := cell_of_row _ w.heap.size 0 _ _ (0, 0) (K0.out _ hW); have z1 := cell_of_row _ w.heap.size 1 _ _ (0, 0) (K0.out _ hW); have z2 := cell_of_row _ w.heap.size 2 _ _ (0, 0) (K0.out _ hW); have z3 := cell_of_row _ w.heap.size 3 _ _ (0, 0) (K0.out _ hW); have y0 := cell_of_row _ (w.heap.size + 1) 0 _ _ (0, 0) (K1.out _ hW); have y1 := cell_of_row _ (w.heap.size + 1) 1 _ _ (0, 0) (K1.out _ hW); have y2 := cell_of_row _ (w.heap.size + 1) 2 _ _ (0, 0) (K1.out _ hW); have y3 := cell_of_row _ (w.heap.size + 1) 3 _ _ (0, 0) (K1.out _ hW); (try clear hW); go_simp; with_reducible rfl); try simp only [Act.put, List.setIfInBounds_toArray, List.set_cons_zero, List.set_cons_succ])
  apply lext_turn; exact rfl; exact rfl; exact rfl; intro K hK; go_simp; go_at_call 61; refine mul_any n1 e2 k1 j2 _ _ _ _ _ (HA1.out.gr (GA.out.tr (Grow.refl wa).dr)) (HB2.out.gr (GA.out.tr (Grow.refl wa).dr)) (by omega) (by omega) ?_; intro r2 w2 hg2 hr2
  have G2 := Lib.hid ((Grow.refl wa).dr.tr hg2)
  have R2 := Lib.hid hr2
  refine hK.out _ _ G2.out ?_
  clear hK hg2 hr2
  try simp only [Act.put, List.setIfInBounds_toArray, List.set_cons_zero, List.set_cons_succ]
  refine lext_nil ?_
  simp only [List.drop_succ_cons, List.drop_zero]
  go_wp2_with fail
  go_at_call 61
  refine mul_any n2 e1 k2 j1 _ _ _ _ w2 (HB1.out.gr (GA.out.tr G2.out)) (HA2.out.gr (GA.out.tr G2.out)) (by omega) (by omega) ?_
  intro r3 w3 hg3 hr3
  have G3 := Lib.hid (G2.out.tr hg3)
  have R2 := Lib.hid (R2.out.gr hg3)
  have R3 := Lib.hid hr3
  clear hg3 hr3
  go_wp2_with fail
  go_at_call 65
  refine cmp_any _ _ (k1 + j2) (k2 + j1) _ _ _ _ w3 R2.out R3.out (by omega) (by omega) ?_
  intro w4 hg4
  have G4 := Lib.hid (GA.out.tr (G3.out.tr hg4))
  clear hg4
  go_wp2
  exact HR.out _ G4.out

set_option maxRecDepth 100000 in
set_option maxHeartbeats 3000000 in
theorem plus22_any (n1 e1 n2 e2 : Int) (k1 j1 k2 j2 : Nat) (a b : Value) (S T : Nat → Prop) (w : World) (ha : RatR w S a n1 e1 k1 j1) (hb : RatR w T b n2 e2 k2 j2) (hk1 : k1 ≤ 1000) (hk2 : k2 ≤ 1000) (hj1 : j1 ≤ 1000) (hj2 : j2 ≤ 1000) {R : Ending → World → Prop}
    (hR : ∀ v w', Grow w w' → RatR w' (fun b => w.heap.size ≤ b) v (n1 * e2 + n2 * e1) (e1 * e2) (max (k1 + j2) (k2 + j1) + 1) (j1 + j2) → R (.returned v) w') :
    Calls Try.prog 77 #[a, b] w R := by
  have HR := Lib.hid hR
  clear hR
  obtain ⟨p, A, x, c, p', A', x', c', rfl, ha1, ha2⟩ := ha
  obtain ⟨q, B, y, d, q', B', y', d', rfl, hb1, hb2⟩ := hb
  have HA1 := Lib.hid ha1
  have HA2 := Lib.hid ha2
  have HB1 := Lib.hid hb1
  have HB2 := Lib.hid hb2
  clear ha1 ha2 hb1 hb2
  obtain ⟨wa, hwa⟩ : ∃ wa, wa = ((w.alloc (.cells #[.bool p, .slice A x c, .bool p', .slice A' x' c'] 35)).alloc (.cells #[.bool q, .slice B y d, .bool q', .slice B' y' d'] 35)).alloc (.cells #[.bool false, .slice none 0 0, .bool false, .slice none 0 0] 35) := ⟨_, rfl⟩
  have K0 : Hid (∀ W, Grow wa W → W.heap[w.heap.size]? = some (.cells #[.bool p, .slice A x c, .bool p', .slice A' x' c'] 35 (0, 0))) := fun W h => by
    subst hwa
    exact blk_al w _ _ ((((Grow.refl _).al _).al _).tr h)
  have K1 : Hid (∀ W, Grow wa W → W.heap[w.heap.size + 1]? = some (.cells #[.bool q, .slice B y d, .bool q', .slice B' y' d'] 35 (0, 0))) := fun W h => by
    subst hwa
    have := blk_al (w.alloc (.cells #[.bool p, .slice A x c, .bool p', .slice A' x' c'] 35)) _ _ (((Grow.refl _).al _).tr h)
    rwa [World.size_alloc] at this
  have K2 : Hid (∀ W, Grow wa W → W.heap[w.heap.size + 1 + 1]? = some (.cells #[.bool false, .slice none 0 0, .bool false, .slice none 0 0] 35 (0, 0))) := fun W h => by
    subst hwa
    have := blk_al _ _ _ h
    rwa [World.size_alloc, World.size_alloc] at this
  have GA : Hid (Grow w wa) := by subst hwa; exact (((Grow.refl w).al _).al _).al _
  have GS : Hid (wa.heap.size = w.heap.size + 3) := by
    subst hwa
    show _ = _
    rw [World.size_alloc, World.size_alloc, World.size_alloc]
  go_enter Try.func77, Try.ntmps77
  go_wp2_with fail
  rw [← hwa]
  clear hwa
  refine wp_region_lexT (Grow wa) ((Grow.refl wa).dr) 15 [0, 1, 2, 3, 5, 6, 7, 8, 11, 12, 13, 14, 4, 9, 10] (by kernel_rfl) (by kernel_rfl) (by intro c a d v w h; cases d <;> exact h) ?_
  iterate 12 (apply lext_take; exact rfl; exact rfl; (intro W hW; have z0 := cell_of_row _ w.heap.size 0 _ _ (0, 0) (K0.out _ hW); have z1 := cell_of_row _ w.heap.size 1 _ _ (0, 0) (K0.out _ hW); have z2 := cell_of_row _ w.heap.size 2 _ _ (0, 0) (K0.out _ hW); have z3 := cell_of_row _ w.heap.size 3 _ _ (0, 0) (K0.out _ hW); have y0 := cell_of_row _ (w.heap.size + 1) 0 _ _ (0, 0) (K1.out _ hW); have y1 := cell_of_row _ (w.heap.size + 1) 1 _ _ (0, 0) (K1.out _ hW); have y2 := cell_of_row _ (w.heap.size + 1) 2 _ _ (0, 0) (K1.out _ hW); have y3 := cell_of_row _ (w.heap.size + 1) 3 _ _ (0, 0) (K1.out _ hW); (try clear hW); go_simp; with_reducible rfl); try simp only [Act.put, List.setIfInBounds_toArray, List.set_cons_zero, List.set_cons_succ])
  apply lext_turn; exact rfl; exact rfl; exact rfl; intro K hK; go_simp; go_at_call 61; refine mul_any n1 e2 k1 j2 _ _ _ _ _ (HA1.out.gr (GA.out.tr (Grow.refl wa).dr)) (HB2.out.gr (GA.out.tr (Grow.refl wa).dr)) (by omega) (by omega) ?_; intro r2 w2 hg2 hr2
  have G2 := Lib.hid ((Grow.refl wa).dr.tr hg2)
  have R2 := Lib.hid hr2
  refine hK.out _ _ G2.out ?_
  clear hK hg2 hr2
  try simp only [Act.put, List.setIfInBounds_toArray, List.set_cons_zero, List.set_cons_succ]
  apply lext_turn; exact rfl; exact rfl; exact rfl; intro K hK; go_simp; go_at_call 61; refine mul_any n2 e1 k2 j1 _ _ _ _ w2 (HB1.out.gr (GA.out.tr G2.out)) (HA2.out.gr (GA.out.tr G2.out)) (by omega) (by omega) ?_; intro r3 w3 hg3 hr3
  have G3 := Lib.hid (G2.out.tr hg3)
  have R2 := Lib.hid (R2.out.gr hg3)
  have R3 := Lib.hid hr3
  refine hK.out _ _ G3.out ?_
  clear hK hg3 hr3
  try simp only [Act.put, List.setIfInBounds_toArray, List.set_cons_zero, List.set_cons_succ]
  apply lext_turn; exact rfl; exact rfl; exact rfl; intro K hK; go_simp; go_at_call 60; refine add_any _ _ (k1 + j2) (k2 + j1) _ _ _ _ w3 R2.out R3.out (by omega) (by omega) ?_; intro r4 w4 hg4 hr4
  obtain ⟨p4, A4, n4, c4, rfl⟩ := hr4.parts
  have G4 := Lib.hid (G3.out.tr hg4)
  have R4 := Lib.hid hr4
  refine hK.out _ _ G4.out ?_
  clear hK hg4 hr4
  try simp only [Act.put, List.setIfInBounds_toArray, List.set_cons_zero, List.set_cons_succ]
  refine lext_nil ?_
  simp only [List.drop_succ_cons, List.drop_zero]
  go_wp2_with fail
  go_at_call 61
  refine mul_any e1 e2 j1 j2 _ _ _ _ w4 (HA2.out.gr (GA.out.tr G4.out)) (HB2.out.gr (GA.out.tr G4.out)) (by omega) (by omega) ?_
  intro r5 w5 hg5 hr5
  obtain ⟨p5, A5, n5, c5, rfl⟩ := hr5.parts
  have G5 := Lib.hid (G4.out.tr hg5)
  have R4 := Lib.hid (R4.out.gr hg5)
  have R5 := Lib.hid hr5
  have SZ3 := Lib.hid (show w.heap.size + 3 ≤ w3.heap.size by have := G3.out.size; have := GS.out; omega)
  have SZ4 := Lib.hid (show w.heap.size + 3 ≤ w4.heap.size by have := G4.out.size; have := GS.out; omega)
  clear hg5 hr5
  have hb := K2.out _ G5.out
  have xc0 := cell_of_row _ (w.heap.size + 1 + 1) 0 _ _ (0, 0) hb
  have xf0 := frozen_of_row _ (w.heap.size + 1 + 1) 0 _ _ hb
  have xb1 := blk_set hb 0 (.bool p4)
  have xc1 := cell_of_row _ (w.heap.size + 1 + 1) 1 _ _ (0, 0) xb1
  have xf1 := frozen_of_row _ (w.heap.size + 1 + 1) 1 _ _ xb1
  have xb2 := blk_set xb1 1 (.slice A4 n4 c4)
  have xc2 := cell_of_row _ (w.heap.size + 1 + 1) 2 _ _ (0, 0) xb2
  have xf2 := frozen_of_row _ (w.heap.size + 1 + 1) 2 _ _ xb2
  have xb3 := blk_set xb2 2 (.bool p5)
  have xc3 := cell_of_row _ (w.heap.size + 1 + 1) 3 _ _ (0, 0) xb3
  have xf3 := frozen_of_row _ (w.heap.size + 1 + 1) 3 _ _ xb3
  have xb4 := blk_set xb3 3 (.slice A5 n5 c5)
  have xr0 := cell_of_row _ (w.heap.size + 1 + 1) 0 _ _ (0, 0) xb4
  have xr1 := cell_of_row _ (w.heap.size + 1 + 1) 1 _ _ (0, 0) xb4
  have xr2 := cell_of_row _ (w.heap.size + 1 + 1) 2 _ _ (0, 0) xb4
  have xr3 := cell_of_row _ (w.heap.size + 1 + 1) 3 _ _ (0, 0) xb4
  simp only [List.setIfInBounds_toArray, List.set_cons_zero, List.set_cons_succ] at xc0 xc1 xc2 xc3 xr0 xr1 xr2 xr3
  clear xb1 xb2 xb3 xb4
  go_wp2
  refine bodyPost_ret (v := .agg #[.bool p4, .slice A4 n4 c4, .bool p5, .slice A5 n5 c5]) (by simp [results, Try.f77, go_sem, xr0, xr1, xr2, xr3]) rfl (HR.out _ _ ?_ ?_)
  · exact (GA.out.tr G5.out).st4 (by omega) _ _ _ _
  · have hs0 := SZ3.out
    have hs1 := SZ4.out
    exact ⟨_, _, _, _, _, _, _, _, rfl, (R4.out.st4 (fun b hb => by omega) _ _ _ _).into fun b hb => by omega, (R5.out.st4 (fun b hb => by omega) _ _ _ _).into fun b hb => by omega⟩

set_option maxRecDepth 100000 in
set_option maxHeartbeats 3000000 in
theorem minus22_any (n1 e1 n2 e2 : Int) (k1 j1 k2 j2 : Nat) (a b : Value) (S T : Nat → Prop) (w : World) (ha : RatR w S a n1 e1 k1 j1) (hb : RatR w T b n2 e2 k2 j2) (hk1 : k1 ≤ 1000) (hk2 : k2 ≤ 1000) (hj1 : j1 ≤ 1000) (hj2 : j2 ≤ 1000) {R : Ending → World → Prop}
    (hR : ∀ v w', Grow w w' → RatR w' (fun b => w.heap.size ≤ b) v (n1 * e2 + -n2 * e1) (e1 * e2) (max (k1 + j2) (k2 + j1) + 1) (j1 + j2) → R (.returned v) w') :
    Calls Try.prog 94 #[a, b] w R := by
  have HR := Lib.hid hR
  clear hR
  obtain ⟨p, A, x, c, p', A', x', c', rfl, ha1, ha2⟩ := ha
  obtain ⟨q, B, y, d, q', B', y', d', rfl, hb1, hb2⟩ := hb
  have HA1 := Lib.hid ha1
  have HA2 := Lib.hid ha2
  have HB1 := Lib.hid hb1
  have HB2 := Lib.hid hb2
  clear ha1 ha2 hb1 hb2
  obtain ⟨wa, hwa⟩ : ∃ wa, wa = ((w.alloc (.cells #[.bool p, .slice A x c, .bool p', .slice A' x' c'] 35)).alloc (.cells #[.bool q, .slice B y d, .bool q', .slice B' y' d'] 35)).alloc (.cells #[.bool false, .slice none 0 0, .bool false, .slice none 0 0] 35) := ⟨_, rfl⟩
  have K0 : Hid (∀ W, Grow wa W → W.heap[w.heap.size]? = some (.cells #[.bool p, .slice A x c, .bool p', .slice A' x' c'] 35 (0, 0))) := fun W h => by
    subst hwa
    exact blk_al w _ _ ((((Grow.refl _).al _).al _).tr h)
  have K1 : Hid (∀ W, Grow wa W → W.heap[w.heap.size + 1]? = some (.cells #[.bool q, .slice B y d, .bool q', .slice B' y' d'] 35 (0, 0))) := fun W h => by
    subst hwa
    have := blk_al (w.alloc (.cells #[.bool p, .slice A x c, .bool p', .slice A' x' c'] 35)) _ _ (((Grow.refl _).al _).tr h)
    rwa [World.size_alloc] at this
  have K2 : Hid (∀ W, Grow wa W → W.heap[w.heap.size + 1 + 1]? = some (.cells #[.bool false, .slice none 0 0, .bool false, .slice none 0 0] 35 (0, 0))) := fun W h => by
    subst hwa
    have := blk_al _ _ _ h
    rwa [World.size_alloc, World.size_alloc] at this
  have GA : Hid (Grow w wa) := by subst hwa; exact (((Grow.refl w).al _).al _).al _
  have GS : Hid (wa.heap.size = w.heap.size + 3) := by
    subst hwa
    show _ = _
    rw [World.size_alloc, World.size_alloc, World.size_alloc]
  go_enter Try.func94, Try.ntmps94
  go_wp2_with fail
  rw [← hwa]
  clear hwa
  refine wp_region_lexT (Grow wa) ((Grow.refl wa).dr) 7 [0, 1, 2, 4, 5, 3, 6] (by kernel_rfl) (by kernel_rfl) (by intro c a d v w h; cases d <;> exact h) ?_
  iterate 5 (apply lext_take; exact rfl; exact rfl; (intro W hW; have z0 := cell_of_row _ w.heap.size 0 _ _ (0, 0) (K0.out _ hW); have z1 := cell_of_row _ w.heap.size 1 _ _ (0, 0) (K0.out _ hW); have z2 := cell_of_row _ w.heap.size 2 _ _ (0, 0) (K0.out _ hW); have z3 := cell_of_row _ w.heap.size 3 _ _ (0, 0) (K0.out _ hW); have y0 := cell_of_row _ (w.heap.size + 1) 0 _ _ (0, 0) (K1.out _ hW); have y1 := cell_of_row _ (w.heap.size + 1) 1 _ _ (0, 0) (K1.out _ hW); have y2 := cell_of_row _ (w.heap.size + 1) 2 _ _ (0, 0) (K1.out _ hW); have y3 := cell_of_row _ (w.heap.size + 1) 3 _ _ (0, 0) (K1.out _ hW); (try clear hW); go_simp; with_reducible rfl); try simp only [Act.put, List.setIfInBounds_toArray, List.set_cons_zero, List.set_cons_succ])
  apply lext_turn; exact rfl; exact rfl; exact rfl; intro K hK; go_simp; go_at_call 93; refine neg_any n2 k2 _ _ _ (HB1.out.gr (GA.out.tr (Grow.refl wa).dr)) (by omega) ?_; intro r2 w2 hg2 hr2
  obtain ⟨p2, A2, m2, c2, rfl⟩ := hr2.parts
  have G2 := Lib.hid ((Grow.refl wa).dr.tr hg2)
  have R2 := Lib.hid hr2
  refine hK.out _ _ G2.out ?_
  clear hK hg2 hr2
  try simp only [Act.put, List.setIfInBounds_toArray, List.set_cons_zero, List.set_cons_succ]
  iterate 1 (apply lext_take; exact rfl; exact rfl; (intro W hW; (try clear hW); go_simp; with_reducible rfl); try simp only [Act.put, List.setIfInBounds_toArray, List.set_cons_zero, List.set_cons_succ])
  refine lext_nil ?_
  simp only [List.drop_succ_cons, List.drop_zero]
  go_wp2_with fail
  go_at_call 77
  refine plus22_any n1 e1 (-n2) e2 k1 j1 k2 j2 _ _ (fun _ => True) (fun _ => True) w2 ⟨_, _, _, _, _, _, _, _, rfl, (HA1.out.gr (GA.out.tr G2.out)).into fun _ _ => trivial, (HA2.out.gr (GA.out.tr G2.out)).into fun _ _ => trivial⟩ ⟨_, _, _, _, _, _, _, _, rfl, R2.out.into fun _ _ => trivial, (HB2.out.gr (GA.out.tr G2.out)).into fun _ _ => trivial⟩ hk1 hk2 hj1 hj2 ?_
  intro r5 w5 hg5 hr5
  obtain ⟨p4, A4, n4, c4, p5, A5, n5, c5, rfl, hR4, hR5⟩ := hr5
  have G5 := Lib.hid (G2.out.tr hg5)
  have R4 := Lib.hid hR4
  have R5 := Lib.hid hR5
  have SZ2 := Lib.hid (show w.heap.size + 3 ≤ w2.heap.size by have := G2.out.size; have := GS.out; omega)
  clear hg5 hR4 hR5
  have hb := K2.out _ G5.out
  have xc0 := cell_of_row _ (w.heap.size + 1 + 1) 0 _ _ (0, 0) hb
  have xf0 := frozen_of_row _ (w.heap.size + 1 + 1) 0 _ _ hb
  have xb1 := blk_set hb 0 (.bool p4)
  have xc1 := cell_of_row _ (w.heap.size + 1 + 1) 1 _ _ (0, 0) xb1
  have xf1 := frozen_of_row _ (w.heap.size + 1 + 1) 1 _ _ xb1
  have xb2 := blk_set xb1 1 (.slice A4 n4 c4)
  have xc2 := cell_of_row _ (w.heap.size + 1 + 1) 2 _ _ (0, 0) xb2
  have xf2 := frozen_of_row _ (w.heap.size + 1 + 1) 2 _ _ xb2
  have xb3 := blk_set xb2 2 (.bool p5)
  have xc3 := cell_of_row _ (w.heap.size + 1 + 1) 3 _ _ (0, 0) xb3
  have xf3 := frozen_of_row _ (w.heap.size + 1 + 1) 3 _ _ xb3
  have xb4 := blk_set xb3 3 (.slice A5 n5 c5)
  have xr0 := cell_of_row _ (w.heap.size + 1 + 1) 0 _ _ (0, 0) xb4
  have xr1 := cell_of_row _ (w.heap.size + 1 + 1) 1 _ _ (0, 0) xb4
  have xr2 := cell_of_row _ (w.heap.size + 1 + 1) 2 _ _ (0, 0) xb4
  have xr3 := cell_of_row _ (w.heap.size + 1 + 1) 3 _ _ (0, 0) xb4
  simp only [List.setIfInBounds_toArray, List.set_cons_zero, List.set_cons_succ] at xc0 xc1 xc2 xc3 xr0 xr1 xr2 xr3
  clear xb1 xb2 xb3 xb4
  go_wp2
  refine bodyPost_ret (v := .agg #[.bool p4, .slice A4 n4 c4, .bool p5, .slice A5 n5 c5]) (by simp [results, Try.f94, go_sem, xr0, xr1, xr2, xr3]) rfl (HR.out _ _ ?_ ?_)
  · exact (GA.out.tr G5.out).st4 (by omega) _ _ _ _
  · have hs0 := SZ2.out
    exact ⟨_, _, _, _, _, _, _, _, rfl, (R4.out.st4 (fun b hb => by omega) _ _ _ _).into fun b hb => by omega, (R5.out.st4 (fun b hb => by omega) _ _ _ _).into fun b hb => by omega⟩
end Go.Proofs.Ytjcgkhcbdbbdkaa
