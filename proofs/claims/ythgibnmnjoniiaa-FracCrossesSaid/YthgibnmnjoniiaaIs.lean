/-
  portolanref23.Is; the law's out.
-/
import Derived.Test.YthgibnmnjoniiaaChecked
import Derived.Test.YthgibnmnjoniiaaRatO
namespace Go.Proofs.Ythgibnmnjoniiaa
open Go.RowKit Go.Lib B

set_option maxRecDepth 100000 in
set_option maxHeartbeats 1000000 in
theorem out23_any (n : Int) (w : World) {R : Ending → World → Prop} (hR : R (.returned (.bool (!inw n))) w) : Calls Try.prog 56 #[.int .i64 n] w R := by
  have HR : ∀ b, (!inw n) = b → R (.returned (.bool b)) w := by rintro b rfl; exact hR
  have HR := Lib.hid HR
  clear hR
  by_cases h : -4503599627370496 ≤ n
  · have t1 : decide (n < -4503599627370496) = false := by simp; omega
    go_enter Try.func56, Try.ntmps56
    go_wp2
    simp only [inw, h, decide_true, Bool.true_and, ← decide_not, Int.not_le]
  · have t1 : decide (n < -4503599627370496) = true := by simp; omega
    go_enter Try.func56, Try.ntmps56
    go_wp2
    simp [inw]
    intro h2
    omega

set_option maxRecDepth 100000 in
set_option maxHeartbeats 4000000 in
theorem is23_any (f : Fr) (n d : Int) (k j : Nat) (v : Value) (S : Nat → Prop) (w : World) (hf : f.ok) (hr : f.right = true) (hv : RatR w S v n d k j) (hk : k ≤ 100) (hj : j ≤ 100) (he : (f.q * f.d + f.r) * d - n * f.d = 0) {R : Ending → World → Prop}
    (hR : ∀ w', Grow w w' → R (.returned (.bool true)) w') :
    Calls Try.prog 58 #[.agg f.cells.toArray, v] w R := by
  have HR := Lib.hid hR
  clear hR
  have RR := Lib.hid fun W (R : Ending → World → Prop) hR => rright_any f W hf (R := R) hR
  rw [hr] at RR
  have RA := Lib.hid fun W (R : Ending → World → Prop) hR => rat23_any f W hf (R := R) hR
  have OR := Lib.hid fun a S T W (ha : RatR W S a (f.q * f.d + f.r) f.d 9 4) (hb : RatR W T v n d k j) (R : Ending → World → Prop) hR => order_any _ _ _ _ 9 4 k j a v S T W ha hb (by omega) (by omega) (by omega) (by omega) (R := R) hR
  rw [he, Int.sign_zero] at OR
  obtain ⟨p, A, x, c, p', A', x', c', rfl, hv1, hv2⟩ := hv
  have HV := Lib.hid (show RatR w S (.agg #[.bool p, .slice A x c, .bool p', .slice A' x' c']) n d k j from ⟨_, _, _, _, _, _, _, _, rfl, hv1, hv2⟩)
  clear hv1 hv2 hr he hf
  obtain ⟨q, r, e⟩ := f
  unfold Fr.cells at RR RA ⊢
  dsimp only at RR RA OR ⊢
  obtain ⟨wa, hwa⟩ : ∃ wa, wa = (w.alloc (.cells #[.int .i64 q, .int .u64 (r : Nat), .int .u64 (e : Nat)] 33)).alloc (.cells #[.bool p, .slice A x c, .bool p', .slice A' x' c'] 86) := ⟨_, rfl⟩
  have K0 : Hid (∀ W, Grow wa W → W.heap[w.heap.size]? = some (.cells #[.int .i64 q, .int .u64 (r : Nat), .int .u64 (e : Nat)] 33 (0, 0))) := fun W h => by
    subst hwa
    exact blk_al w _ _ (((Grow.refl _).al _).tr h)
  have K1 : Hid (∀ W, Grow wa W → W.heap[w.heap.size + 1]? = some (.cells #[.bool p, .slice A x c, .bool p', .slice A' x' c'] 86 (0, 0))) := fun W h => by
    subst hwa
    have := blk_al _ _ _ h
    rwa [World.size_alloc] at this
  have GA : Hid (Grow w wa) := by subst hwa; exact ((Grow.refl w).al _).al _
  go_enter Try.func58, Try.ntmps58
  go_wp2_with fail
  rw [← hwa]
  clear hwa
  refine wp_region_lexT (Grow wa) ((Grow.refl wa).dr) 6 [0, 1, 2, 3, 5, 4] (by kernel_rfl) (by kernel_rfl) (by intro c a d v w h; cases d <;> exact h) ?_
  apply lext_take; exact rfl; exact rfl
  · intro W hW
    have z0 := cell_of_row _ w.heap.size 0 _ _ (0, 0) (K0.out _ hW)
    have z1 := cell_of_row _ w.heap.size 1 _ _ (0, 0) (K0.out _ hW)
    have z2 := cell_of_row _ w.heap.size 2 _ _ (0, 0) (K0.out _ hW)
    have y0 := cell_of_row _ (w.heap.size + 1) 0 _ _ (0, 0) (K1.out _ hW)
    have y1 := cell_of_row _ (w.heap.size + 1) 1 _ _ (0, 0) (K1.out _ hW)
    have y2 := cell_of_row _ (w.heap.size + 1) 2 _ _ (0, 0) (K1.out _ hW)
    have y3 := cell_of_row _ (w.heap.size + 1) 3 _ _ (0, 0) (K1.out _ hW)
    clear hW
    go_simp
    with_reducible rfl
  try simp only [Act.put, List.setIfInBounds_toArray, List.set_cons_zero, List.set_cons_succ]
  apply lext_turn; exact rfl; exact rfl; exact rfl; intro K hK; go_simp; go_at_call 63; refine RR.out _ _ ?_; intro w1 hg1
  have G1 := Lib.hid ((Grow.refl wa).dr.tr hg1)
  refine hK.out _ _ G1.out ?_
  clear hK hg1
  try simp only [Act.put, List.setIfInBounds_toArray, List.set_cons_zero, List.set_cons_succ]
  iterate 1 (apply lext_take; exact rfl; exact rfl; (intro W hW; (try clear hW); go_simp; with_reducible rfl); try simp only [Act.put, List.setIfInBounds_toArray, List.set_cons_zero, List.set_cons_succ])
  apply lext_take; exact rfl; exact rfl
  · intro W hW
    have z0 := cell_of_row _ w.heap.size 0 _ _ (0, 0) (K0.out _ hW)
    have z1 := cell_of_row _ w.heap.size 1 _ _ (0, 0) (K0.out _ hW)
    have z2 := cell_of_row _ w.heap.size 2 _ _ (0, 0) (K0.out _ hW)
    have y0 := cell_of_row _ (w.heap.size + 1) 0 _ _ (0, 0) (K1.out _ hW)
    have y1 := cell_of_row _ (w.heap.size + 1) 1 _ _ (0, 0) (K1.out _ hW)
    have y2 := cell_of_row _ (w.heap.size + 1) 2 _ _ (0, 0) (K1.out _ hW)
    have y3 := cell_of_row _ (w.heap.size + 1) 3 _ _ (0, 0) (K1.out _ hW)
    clear hW
    go_simp
    with_reducible rfl
  try simp only [Act.put, List.setIfInBounds_toArray, List.set_cons_zero, List.set_cons_succ]
  apply lext_take; exact rfl; exact rfl
  · intro W hW
    have z0 := cell_of_row _ w.heap.size 0 _ _ (0, 0) (K0.out _ hW)
    have z1 := cell_of_row _ w.heap.size 1 _ _ (0, 0) (K0.out _ hW)
    have z2 := cell_of_row _ w.heap.size 2 _ _ (0, 0) (K0.out _ hW)
    have y0 := cell_of_row _ (w.heap.size + 1) 0 _ _ (0, 0) (K1.out _ hW)
    have y1 := cell_of_row _ (w.heap.size + 1) 1 _ _ (0, 0) (K1.out _ hW)
    have y2 := cell_of_row _ (w.heap.size + 1) 2 _ _ (0, 0) (K1.out _ hW)
    have y3 := cell_of_row _ (w.heap.size + 1) 3 _ _ (0, 0) (K1.out _ hW)
    clear hW
    go_simp
    with_reducible rfl
  try simp only [Act.put, List.setIfInBounds_toArray, List.set_cons_zero, List.set_cons_succ]
  apply lext_turn; exact rfl; exact rfl; exact rfl; intro K hK; go_simp; go_at_call 67; refine RA.out _ _ ?_; intro rv w2 hg2 hrv
  have G2 := Lib.hid (G1.out.tr hg2)
  have RV := Lib.hid hrv
  refine hK.out _ _ G2.out ?_
  clear hK hg2 hrv
  try simp only [Act.put, List.setIfInBounds_toArray, List.set_cons_zero, List.set_cons_succ]
  refine lext_nil ?_
  simp only [List.drop_succ_cons, List.drop_zero]
  go_wp2_with fail
  go_at_call 68
  refine OR.out _ _ _ _ RV.out (HV.out.gr (GA.out.tr G2.out)) _ ?_
  intro w3 hg3
  have G3 := Lib.hid (GA.out.tr (G2.out.tr hg3))
  clear hg3
  go_wp2
  exact HR.out _ G3.out
end Go.Proofs.Ythgibnmnjoniiaa
