/-
  frac.Cross, where the axes are not exchanged; the laws' own helpers of chapter 23.
-/
import Derived.Test.YtjcgkhcbdbbdkaaChecked
import Derived.Test.YtjcgkhcbdbbdkaaFracW
import Derived.Test.YtjcgkhcbdbbdkaaWide
import Derived.Test.YtjcgkhcbdbbdkaaPts
namespace Go.Proofs.Ytjcgkhcbdbbdkaa
open Go.RowKit Go.Lib B

set_option maxRecDepth 100000 in
set_option maxHeartbeats 1000000 in
theorem xfar_any (p : Pt) (w : World) {R : Ending → World → Prop} (hR : ∀ w', Grow w w' → R (.returned (.bool p.far)) w') : Calls Try.prog 98 #[.agg p.cells.toArray] w R := by
  obtain ⟨x, y⟩ := p
  have HR : ∀ b w', (Pt.far ⟨x, y⟩) = b → Grow w w' → R (.returned (.bool b)) w' := by rintro b w' rfl h; exact hR _ h
  have HR := Lib.hid HR
  clear hR
  have HI := Lib.hid fun W (R : Ending → World → Prop) hR => in_any x W (R := R) hR
  have HJ := Lib.hid fun W (R : Ending → World → Prop) hR => in_any y W (R := R) hR
  unfold Pt.cells
  dsimp only
  cases hq : inw x
  · rw [hq] at HI
    have hq := Lib.hid hq
    go_enter Try.func98, Try.ntmps98
    go_wp2_with (go_at_call 85; refine HI.out _ _ ?_)
    refine HR.out _ _ (by simp [Pt.far, hq.out]) ((Grow.refl w).al _)
  · rw [hq] at HI
    have hq := Lib.hid hq
    go_enter Try.func98, Try.ntmps98
    go_wp2_with (go_at_call 85; first | (refine HI.out _ _ ?_) | (refine HJ.out _ _ ?_))
    refine HR.out _ _ (by simp [Pt.far, hq.out]) ((Grow.refl w).al _)

set_option maxRecDepth 100000 in
set_option maxHeartbeats 2000000 in
theorem crossEx_any (w : World) {R : Ending → World → Prop} (hR : ∀ w', Grow w w' → R (.returned (.tuple #[.agg #[.int .i64 0, .int .u64 1, .int .u64 3], .int .i64 0])) w') :
    Calls Try.prog 73 #[.agg #[.int .i64 0, .int .i64 0], .agg #[.int .i64 3, .int .i64 1], .int .i64 1, .bool false] w R := by
  have HR := Lib.hid hR
  clear hR
  have F1 := Lib.hid fun W (R : Ending → World → Prop) hR => xfar_any ⟨0, 0⟩ W (R := R) hR
  have F2 := Lib.hid fun W (R : Ending → World → Prop) hR => xfar_any ⟨3, 1⟩ W (R := R) hR
  rw [show Pt.far ⟨0, 0⟩ = false by decide] at F1
  rw [show Pt.far ⟨3, 1⟩ = false by decide] at F2
  unfold Pt.cells at F1 F2
  dsimp only at F1 F2
  have I1 := Lib.hid fun W (R : Ending → World → Prop) hR => in_any 1 W (R := R) hR
  rw [show inw 1 = true by decide] at I1
  have MD := Lib.hid fun W (R : Ending → World → Prop) hR => mulDiv_any 1 1 3 (by unfold I64; omega) (by unfold I64; omega) (by unfold I64; omega) W (R := R) hR
  rw [show mdS (tmS 1 1) ((1 : Int).natAbs * (1 : Int).natAbs) (3 : Int).natAbs (cmpI' 3 0) = (0, 1, 0) by decide] at MD
  have hmk : makeS 0 1 3 = (⟨0, 1, 3⟩, 0) := by unfold makeS; rw [if_neg (by decide), show Nat.gcd 1 3 = 1 by decide, if_pos (by decide)]
  have MK : Hid (∀ W (R : Ending → World → Prop), (∀ w', Grow W w' → R (.returned (.tuple #[.agg #[.int .i64 0, .int .u64 1, .int .u64 3], .int .i64 0])) w') → Calls Try.prog 100 #[.int .i64 0, .int .u64 1, .int .u64 3] W R) := fun W R hR => by
    refine make_any 0 1 3 W (by omega) (by omega) (by omega) ?_
    intro w' f e h hg
    rw [hmk] at h
    simp only [Prod.mk.injEq] at h
    obtain ⟨rfl, rfl⟩ := h
    exact hR w' hg
  clear hmk
  go_enter Try.func73, Try.ntmps73
  go_wp2_with fail
  go_at_call 98
  refine F1.out _ _ ?_
  intro w1 hg1
  have K0 := Lib.hid (grow_blk (((Grow.refl ((w.alloc (.cells #[.int .i64 0, .int .i64 0] 23)).alloc (.cells #[.int .i64 3, .int .i64 1] 23))).al _).tr hg1) (grow_blk ((Grow.refl (w.alloc (.cells #[.int .i64 0, .int .i64 0] 23))).al _) (heap_alloc_new w (.cells #[.int .i64 0, .int .i64 0] 23))))
  have K1 := Lib.hid (grow_blk (((Grow.refl ((w.alloc (.cells #[.int .i64 0, .int .i64 0] 23)).alloc (.cells #[.int .i64 3, .int .i64 1] 23))).al _).tr hg1) (heap_alloc_new (w.alloc (.cells #[.int .i64 0, .int .i64 0] 23)) (.cells #[.int .i64 3, .int .i64 1] 23)))
  have K2 := Lib.hid (blk_al _ _ _ hg1)
  rw [World.size_alloc] at K1
  rw [World.size_alloc, World.size_alloc] at K2
  have G1 := Lib.hid ((((Grow.refl w).al _).al _ |>.al _).tr hg1)
  clear hg1
  have z0 := cell_of_row _ w.heap.size 0 _ _ (0, 0) (grow_blk (Grow.refl w1) K0.out)
  have z1 := cell_of_row _ w.heap.size 1 _ _ (0, 0) (grow_blk (Grow.refl w1) K0.out)
  have y0 := cell_of_row _ (w.heap.size + 1) 0 _ _ (0, 0) (grow_blk (Grow.refl w1) K1.out)
  have y1 := cell_of_row _ (w.heap.size + 1) 1 _ _ (0, 0) (grow_blk (Grow.refl w1) K1.out)
  go_wp2_with fail
  clear z0 z1 y0 y1
  go_at_call 98
  refine F2.out _ _ ?_
  intro w2 hg2
  have G2 := Lib.hid hg2
  clear hg2
  have z0 := cell_of_row _ w.heap.size 0 _ _ (0, 0) (grow_blk G2.out K0.out)
  have z1 := cell_of_row _ w.heap.size 1 _ _ (0, 0) (grow_blk G2.out K0.out)
  have y0 := cell_of_row _ (w.heap.size + 1) 0 _ _ (0, 0) (grow_blk G2.out K1.out)
  have y1 := cell_of_row _ (w.heap.size + 1) 1 _ _ (0, 0) (grow_blk G2.out K1.out)
  go_wp2_with fail
  go_at_call 85
  refine I1.out _ _ ?_
  go_wp2_with fail
  clear z0 z1 y0 y1
  go_at_call 99
  refine MD.out _ _ ?_
  intro w3 q r e hg3 h
  simp only [Prod.mk.injEq] at h
  obtain ⟨rfl, rfl, rfl⟩ := h
  have G3 := Lib.hid (G2.out.tr hg3)
  clear hg3
  have z0 := cell_of_row _ w.heap.size 0 _ _ (0, 0) (grow_blk G3.out K0.out)
  have z1 := cell_of_row _ w.heap.size 1 _ _ (0, 0) (grow_blk G3.out K0.out)
  have y0 := cell_of_row _ (w.heap.size + 1) 0 _ _ (0, 0) (grow_blk G3.out K1.out)
  have y1 := cell_of_row _ (w.heap.size + 1) 1 _ _ (0, 0) (grow_blk G3.out K1.out)
  go_wp2_with fail
  clear z0 z1 y0 y1
  go_at_call 100
  refine MK.out _ _ ?_
  intro w4 hg4
  have G4 := Lib.hid (G3.out.tr hg4)
  clear hg4
  have hb := grow_blk G4.out K2.out
  have c0 := cell_of_row _ (w.heap.size + 1 + 1) 0 _ _ (0, 0) hb
  have f0 := frozen_of_row _ (w.heap.size + 1 + 1) 0 _ _ hb
  have b1 := blk_set hb 0 (.int .i64 0)
  have c1 := cell_of_row _ (w.heap.size + 1 + 1) 1 _ _ (0, 0) b1
  have f1 := frozen_of_row _ (w.heap.size + 1 + 1) 1 _ _ b1
  have b2 := blk_set b1 1 (.int .u64 1)
  have c2 := cell_of_row _ (w.heap.size + 1 + 1) 2 _ _ (0, 0) b2
  have f2 := frozen_of_row _ (w.heap.size + 1 + 1) 2 _ _ b2
  have b3 := blk_set b2 2 (.int .u64 3)
  have r0 := cell_of_row _ (w.heap.size + 1 + 1) 0 _ _ (0, 0) b3
  have r1 := cell_of_row _ (w.heap.size + 1 + 1) 1 _ _ (0, 0) b3
  have r2 := cell_of_row _ (w.heap.size + 1 + 1) 2 _ _ (0, 0) b3
  simp only [List.setIfInBounds_toArray, List.set_cons_zero, List.set_cons_succ] at c0 c1 c2 r0 r1 r2
  clear b1 b2 b3 hb
  go_wp2
  refine bodyPost_ret (v := .tuple #[.agg #[.int .i64 0, .int .u64 1, .int .u64 3], .int .i64 0]) (by simp [results, Try.f73, go_sem, r0, r1, r2]) rfl (HR.out _ ?_)
  exact grow_set3 (by omega) (G1.out.tr G4.out) _ _ _
end Go.Proofs.Ytjcgkhcbdbbdkaa
