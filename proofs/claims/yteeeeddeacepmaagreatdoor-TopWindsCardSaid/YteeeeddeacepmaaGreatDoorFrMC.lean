import Derived.Test.YteeeeddeacepmaaGreatDoorCrossA
namespace Go.Proofs.YteeeeddeacepmaaGreatDoor
set_option maxRecDepth 100000
open Go.RowKit Go.Lib B
end Go.Proofs.YteeeeddeacepmaaGreatDoor
namespace Go.Proofs.YteeeeddeacepmaaGreatDoor
set_option maxRecDepth 100000
open Go.RowKit Go.Lib B
set_option maxHeartbeats 2000000 in
theorem fcmp_any (f : Fr) (n : Int) (w : World) (hf : f.ok) {R : Ending -> World -> Prop} (hR : ∀ w', Grow w w' -> R (.returned (.int .i64 (if f.right = true then orL [cmpI' f.q n, cmpI' (f.r : Int) 0] else 0))) w') :
  Calls Tryz.prog 59 #[.agg f.cells.toArray, .int .i64 n] w R := by
 have HR := Lh hR; clear hR; have FR := Lh fun W (R : Ending -> World -> Prop) hR => right_any f W hf (R := R) hR
 obtain ⟨ok, hok⟩ : ∃ ok, f.right = ok := ⟨_, rfl⟩
 rw [hok] at FR HR; clear hok hf; obtain ⟨q, r, d⟩ := f; unfold Fr.cells at FR ⊢; dsimp only at FR HR ⊢
 obtain ⟨w0, hw0⟩ : ∃ w0, w0 = w.alloc (.cells #[.int .i64 q, .int .u64 (r : Nat), .int .u64 (d : Nat)] 27) := ⟨_, rfl⟩
 have G0 : Hid (Grow w w0) := by subst hw0; exact (Grow.refl w).al _
 have F0 : Hid (∀ W, Grow w0 W -> W.heap[w.heap.size]? = some (.cells #[.int .i64 q, .int .u64 (r : Nat), .int .u64 (d : Nat)] 27 (0, 0))) := fun W h => by subst hw0; exact blk_al _ _ _ h
 cases ok with
 | false =>
  simp only [Bool.false_eq_true, if_false] at HR; go_enter Tryz.func59, Tryz.ntmps59
  go_wp2_with fail
  rw [<- hw0]; clear hw0; go_at_call 94; refine FR.out _ _ ?_; intro w1 hg1; have G1 := Lh (G0.out.tr hg1); clear hg1; go_wp2; exact HR.out _ G1.out
 | true =>
  simp only [if_true] at HR; have C1 := Lh fun W (R : Ending -> World -> Prop) hR => cmpI_any q n W (R := R) hR
  have C2 := Lh fun W (R : Ending -> World -> Prop) hR => cmpU_any (r : Int) 0 W (R := R) hR
  have OR := Lh fun v S W h (R : Ending -> World -> Prop) hR => or_any [cmpI' q n, cmpI' (r : Int) 0] v S W h (by simp) (R := R) hR
  generalize orL [cmpI' q n, cmpI' (r : Int) 0] = m at *; generalize cmpI' q n = x1 at *; generalize cmpI' (r : Int) 0 = x0 at *; go_enter Tryz.func59, Tryz.ntmps59
  go_wp2_with fail
  rw [<- hw0]; clear hw0; go_at_call 94; refine FR.out _ _ ?_; intro w1 hg1; have G1 := Lh hg1; clear hg1; go_wp2_with fail
  refine wp_region_lexT (Grow w1) ((Grow.refl w1).dr) 6 [0, 1, 2, 4, 5, 3] (by kernel_rfl) (by kernel_rfl) (by intro c a d v w h; cases d <;> exact h) ?_
  iterate 5 (apply lext_take; exact rfl; exact rfl; (intro W hW; have z0 := cell_of_row _ w.heap.size 0 _ _ (0, 0) (F0.out _ (G1.out.tr hW)); have z1 := cell_of_row _ w.heap.size 1 _ _ (0, 0) (F0.out _ (G1.out.tr hW)); (try clear hW); go_simp; with_reducible rfl); try simp only [Act.put, sA, sZ, sS])
  apply lext_turn; exact rfl; exact rfl; exact rfl; intro K hK; go_simp; go_at_call 96; refine C1.out _ _ ?_; refine hK.out _ _ (Grow.refl w1).dr ?_; clear hK
  try simp only [Act.put, sA, sZ, sS]
  refine lext_nil ?_; simp only [List.drop_succ_cons, List.drop_zero]; go_wp2_with fail
  go_at_call 97; refine C2.out _ _ ?_; go_wp2_with fail
  go_at_call 95; refine OR.out _ _ _ ((Rd.lit w1 #[.int .i64 x1, .int .i64 x0] 3 2 (by decide) rfl).gr2 (by decide) (Grow.refl _).dr) _ ?_; go_wp2; exact HR.out _ ((G0.out.tr G1.out).tr ((Grow.refl w1).al _).dr)
end Go.Proofs.YteeeeddeacepmaaGreatDoor
