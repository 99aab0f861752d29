/-
  FracCrosses.
-/
import Derived.Test.YthgibnmnjoniiaaChecked
import Derived.Test.YthgibnmnjoniiaaCrossG
import Derived.Test.YthgibnmnjoniiaaFracMakes
import Derived.Test.YthgibnmnjoniiaaAt
import Derived.Test.YthgibnmnjoniiaaIs
namespace Go.Proofs.Ythgibnmnjoniiaa
open Go.RowKit Go.Lib B

-- up to the test of the numbers: world wc; slot 9 lies in block w1.heap.size
-- the fraction, the error, the example

theorem crossCalls {p q : Pt} {c : Int} {up : Bool} {f : Fr} {e : Int} (h : crossS p q c up = (f, e)) :
    (∀ W (R : Ending → World → Prop), (∀ w', Grow W w' → R (.returned (.tuple #[.agg f.cells.toArray, .int .i64 e])) w') → Calls Try.prog 54 #[.agg p.cells.toArray, .agg q.cells.toArray, .int .i64 c, .bool up] W R) ∧
    (∀ W (R : Ending → World → Prop), (∀ w', Grow W w' → R (.returned (.tuple #[.agg f.cells.toArray, .int .i64 e])) w') → Calls Try.prog 54 #[.agg q.cells.toArray, .agg p.cells.toArray, .int .i64 c, .bool up] W R) := by
  refine ⟨fun W R hR => cross_any p q c up W ?_, fun W R hR => cross_any q p c up W ?_⟩
  · intro w' f' e' h' g
    rw [h] at h'
    simp only [Prod.mk.injEq] at h'
    obtain ⟨rfl, rfl⟩ := h'
    exact hR w' g
  · intro w' f' e' h' g
    rw [crossS_swap, h] at h'
    simp only [Prod.mk.injEq] at h'
    obtain ⟨rfl, rfl⟩ := h'
    exact hR w' g
theorem atD_eq {p q : Pt} : atD p q = (crossD p q : Int) := by
  unfold atD crossD
  split <;> omega
theorem atN_eq {p q : Pt} {c : Int} : atN p q c = crossX p q c := by
  unfold atN crossX
  rw [Int.one_mul, Int.mul_one]

set_option maxRecDepth 100000 in
set_option maxHeartbeats 16000000 in
theorem fcrossFar (px py qx qy c : Int) (up : Bool) (w : World) (hf : (Pt.far ⟨px, py⟩ || Pt.far ⟨qx, qy⟩ || !inw c) = true) {R : Ending → World → Prop} (hR : ∀ w', Grow w w' → R (.returned (.bool true)) w') :
    Calls Try.prog 12 #[.agg #[.int .i64 px, .int .i64 py], .agg #[.int .i64 qx, .int .i64 qy], .int .i64 c, .bool up] w R := by
  have HR := Lib.hid hR
  clear hR
  have CC := crossCalls (p := ⟨px, py⟩) (q := ⟨qx, qy⟩) (c := c) (up := up) (f := ⟨0, 0, 0⟩) (e := 8) (by unfold crossS; rw [if_pos hf])
  have C1 := Lib.hid CC.1
  have C2 := Lib.hid CC.2
  clear CC
  unfold Pt.cells Fr.cells at C1 C2
  dsimp only at C1 C2
  have O1 := Lib.hid fun W (R : Ending → World → Prop) hR => out23_any px W (R := R) hR
  have O2 := Lib.hid fun W (R : Ending → World → Prop) hR => out23_any py W (R := R) hR
  have O3 := Lib.hid fun W (R : Ending → World → Prop) hR => out23_any qx W (R := R) hR
  have O4 := Lib.hid fun W (R : Ending → World → Prop) hR => out23_any qy W (R := R) hR
  have O5 := Lib.hid fun W (R : Ending → World → Prop) hR => out23_any c W (R := R) hR
  unfold Pt.far at hf
  dsimp only at hf
  generalize (!inw px) = j1 at *
  generalize (!inw py) = j2 at *
  generalize (!inw qx) = j3 at *
  generalize (!inw qy) = j4 at *
  generalize (!inw c) = j5 at *
  obtain ⟨wa, hwa⟩ : ∃ wa, wa = (w.alloc (.cells #[.int .i64 px, .int .i64 py] 24)).alloc (.cells #[.int .i64 qx, .int .i64 qy] 24) := ⟨_, rfl⟩
  have K0 : Hid (∀ W, Grow wa W → W.heap[w.heap.size]? = some (.cells #[.int .i64 px, .int .i64 py] 24 (0, 0))) := fun W h => by
    subst hwa
    exact blk_al w _ _ (((Grow.refl _).al _).tr h)
  have K1 : Hid (∀ W, Grow wa W → W.heap[w.heap.size + 1]? = some (.cells #[.int .i64 qx, .int .i64 qy] 24 (0, 0))) := fun W h => by
    subst hwa
    have := blk_al _ _ _ h
    rwa [World.size_alloc] at this
  have GX : Hid (Grow w wa) := by subst hwa; exact ((Grow.refl w).al _).al _
  have LW : Hid (w.heap.size + 2 ≤ wa.heap.size) := by subst hwa; rw [World.size_alloc, World.size_alloc]; exact Nat.le_refl _
  go_enter Try.func12, Try.ntmps12
  have z0 := cell_of_row _ w.heap.size 0 _ _ (0, 0) (K0.out _ (Grow.refl _))
  have z1 := cell_of_row _ w.heap.size 1 _ _ (0, 0) (K0.out _ (Grow.refl _))
  have y0 := cell_of_row _ (w.heap.size + 1) 0 _ _ (0, 0) (K1.out _ (Grow.refl _))
  have y1 := cell_of_row _ (w.heap.size + 1) 1 _ _ (0, 0) (K1.out _ (Grow.refl _))
  rw [hwa] at z0 z1 y0 y1
  go_wp2_with fail
  rw [← hwa]
  clear hwa z0 z1 y0 y1
  go_at_call 54
  refine C1.out _ _ ?_
  intro w1 hg1
  have G1 := Lib.hid hg1
  clear hg1
  obtain ⟨wb, hwb⟩ : ∃ wb, wb = w1.alloc (.cells #[.int .i64 0, .int .u64 0, .int .u64 0] 33) := ⟨_, rfl⟩
  have GB : Hid (Grow wa wb) := by rw [hwb]; exact G1.out.al _
  have FB : Hid (∀ W, Grow wb W → W.heap[w1.heap.size]? = some (.cells #[.int .i64 0, .int .u64 0, .int .u64 0] 33 (0, 0))) := fun W h => by
    subst hwb
    exact blk_al w1 _ _ h
  have z0 := cell_of_row _ w.heap.size 0 _ _ (0, 0) (K0.out _ (GB.out))
  have z1 := cell_of_row _ w.heap.size 1 _ _ (0, 0) (K0.out _ (GB.out))
  have y0 := cell_of_row _ (w.heap.size + 1) 0 _ _ (0, 0) (K1.out _ (GB.out))
  have y1 := cell_of_row _ (w.heap.size + 1) 1 _ _ (0, 0) (K1.out _ (GB.out))
  rw [hwb] at z0 z1 y0 y1
  go_wp2_with fail
  rw [← hwb]
  clear hwb z0 z1 y0 y1
  go_at_call 54
  refine C2.out _ _ ?_
  intro w2 hg2
  have G2 := Lib.hid hg2
  clear hg2
  obtain ⟨wc, hwc⟩ : ∃ wc, wc = w2.alloc (.cells #[.int .i64 0, .int .u64 0, .int .u64 0] 33) := ⟨_, rfl⟩
  have GC : Hid (Grow wb wc) := by rw [hwc]; exact G2.out.al _
  have b3 : wc.heap[w2.heap.size]? = some (.cells #[.int .i64 0, .int .u64 0, .int .u64 0] 33 (0, 0)) := by rw [hwc]; exact heap_alloc_new w2 _
  have v0 := cell_of_row _ w1.heap.size 0 _ _ (0, 0) (FB.out _ (GC.out))
  have v1 := cell_of_row _ w1.heap.size 1 _ _ (0, 0) (FB.out _ (GC.out))
  have v2 := cell_of_row _ w1.heap.size 2 _ _ (0, 0) (FB.out _ (GC.out))
  have u0 := cell_of_row _ w2.heap.size 0 _ _ (0, 0) b3
  have u1 := cell_of_row _ w2.heap.size 1 _ _ (0, 0) b3
  have u2 := cell_of_row _ w2.heap.size 2 _ _ (0, 0) b3
  clear b3
  rw [hwc] at v0 v1 v2 u0 u1 u2
  go_wp2_with fail
  rw [← hwc]
  clear hwc v0 v1 v2 u0 u1 u2
  go_at_call 55
  refine code23_any _ _ ?_
  go_wp2_with fail
  go_at_call 55
  refine code23_any _ _ ?_
  have K0 := Lib.hid fun W h => K0.out W (GB.out.tr (GC.out.tr h))
  have K1 := Lib.hid fun W h => K1.out W (GB.out.tr (GC.out.tr h))
  have FB := Lib.hid fun W h => FB.out W (GC.out.tr h)
  have GX := Lib.hid (GX.out.tr (GB.out.tr GC.out))
  have LB := Lib.hid (show w.heap.size + 2 ≤ w1.heap.size by have := LW.out; have := G1.out.size; omega)
  clear G1 G2 GB GC C1 C2 LW
  have z0 := cell_of_row _ w.heap.size 0 _ _ (0, 0) (K0.out _ (Grow.refl wc))
  have z1 := cell_of_row _ w.heap.size 1 _ _ (0, 0) (K0.out _ (Grow.refl wc))
  have y0 := cell_of_row _ (w.heap.size + 1) 0 _ _ (0, 0) (K1.out _ (Grow.refl wc))
  have y1 := cell_of_row _ (w.heap.size + 1) 1 _ _ (0, 0) (K1.out _ (Grow.refl wc))
  go_wp2_with fail
  go_at_call 56
  refine O1.out _ _ ?_
  cases j1 with
  | true =>
    clear hf
    have v0 := cell_of_row _ w1.heap.size 0 _ _ (0, 0) (FB.out _ (Grow.refl wc))
    have v1 := cell_of_row _ w1.heap.size 1 _ _ (0, 0) (FB.out _ (Grow.refl wc))
    have v2 := cell_of_row _ w1.heap.size 2 _ _ (0, 0) (FB.out _ (Grow.refl wc))
    go_wp2_with fail
    go_at_call 55
    refine code23_any _ _ ?_
    clear v0 v1 v2
    go_wp2_with fail
    go_at_call 57
    refine live23_any _ ?_
    intro w99 hg99
    have HG99 := Lib.hid hg99
    clear hg99
    go_wp2
    exact HR.out _ ((GX.out.tr (Grow.refl wc)).tr HG99.out)
  | false =>
    go_wp2_with fail
    go_at_call 56
    refine O2.out _ _ ?_
    cases j2 with
    | true =>
      clear hf
      have v0 := cell_of_row _ w1.heap.size 0 _ _ (0, 0) (FB.out _ (Grow.refl wc))
      have v1 := cell_of_row _ w1.heap.size 1 _ _ (0, 0) (FB.out _ (Grow.refl wc))
      have v2 := cell_of_row _ w1.heap.size 2 _ _ (0, 0) (FB.out _ (Grow.refl wc))
      go_wp2_with fail
      go_at_call 55
      refine code23_any _ _ ?_
      clear v0 v1 v2
      go_wp2_with fail
      go_at_call 57
      refine live23_any _ ?_
      intro w99 hg99
      have HG99 := Lib.hid hg99
      clear hg99
      go_wp2
      exact HR.out _ ((GX.out.tr (Grow.refl wc)).tr HG99.out)
    | false =>
      go_wp2_with fail
      go_at_call 56
      refine O3.out _ _ ?_
      cases j3 with
      | true =>
        clear hf
        have v0 := cell_of_row _ w1.heap.size 0 _ _ (0, 0) (FB.out _ (Grow.refl wc))
        have v1 := cell_of_row _ w1.heap.size 1 _ _ (0, 0) (FB.out _ (Grow.refl wc))
        have v2 := cell_of_row _ w1.heap.size 2 _ _ (0, 0) (FB.out _ (Grow.refl wc))
        go_wp2_with fail
        go_at_call 55
        refine code23_any _ _ ?_
        clear v0 v1 v2
        go_wp2_with fail
        go_at_call 57
        refine live23_any _ ?_
        intro w99 hg99
        have HG99 := Lib.hid hg99
        clear hg99
        go_wp2
        exact HR.out _ ((GX.out.tr (Grow.refl wc)).tr HG99.out)
      | false =>
        go_wp2_with fail
        go_at_call 56
        refine O4.out _ _ ?_
        cases j4 with
        | true =>
          clear hf
          have v0 := cell_of_row _ w1.heap.size 0 _ _ (0, 0) (FB.out _ (Grow.refl wc))
          have v1 := cell_of_row _ w1.heap.size 1 _ _ (0, 0) (FB.out _ (Grow.refl wc))
          have v2 := cell_of_row _ w1.heap.size 2 _ _ (0, 0) (FB.out _ (Grow.refl wc))
          go_wp2_with fail
          go_at_call 55
          refine code23_any _ _ ?_
          clear v0 v1 v2
          go_wp2_with fail
          go_at_call 57
          refine live23_any _ ?_
          intro w99 hg99
          have HG99 := Lib.hid hg99
          clear hg99
          go_wp2
          exact HR.out _ ((GX.out.tr (Grow.refl wc)).tr HG99.out)
        | false =>
          go_wp2_with fail
          go_at_call 56
          refine O5.out _ _ ?_
          obtain rfl : j5 = true := by simpa using hf
          clear hf
          have v0 := cell_of_row _ w1.heap.size 0 _ _ (0, 0) (FB.out _ (Grow.refl wc))
          have v1 := cell_of_row _ w1.heap.size 1 _ _ (0, 0) (FB.out _ (Grow.refl wc))
          have v2 := cell_of_row _ w1.heap.size 2 _ _ (0, 0) (FB.out _ (Grow.refl wc))
          go_wp2_with fail
          go_at_call 55
          refine code23_any _ _ ?_
          clear v0 v1 v2
          go_wp2_with fail
          go_at_call 57
          refine live23_any _ ?_
          intro w99 hg99
          have HG99 := Lib.hid hg99
          clear hg99
          go_wp2
          exact HR.out _ ((GX.out.tr (Grow.refl wc)).tr HG99.out)


set_option maxRecDepth 100000 in
set_option maxHeartbeats 16000000 in
theorem fcrossNone (px py qx qy c : Int) (w : World) (hp : Pt.far ⟨px, py⟩ = false) (hq : Pt.far ⟨qx, qy⟩ = false) (hc : (!inw c) = false) (hn : noneB ⟨px, py⟩ ⟨qx, qy⟩ c = true) {R : Ending → World → Prop} (hR : ∀ w', Grow w w' → R (.returned (.bool true)) w') :
    Calls Try.prog 12 #[.agg #[.int .i64 px, .int .i64 py], .agg #[.int .i64 qx, .int .i64 qy], .int .i64 c, .bool false] w R := by
  have HR := Lib.hid hR
  clear hR
  have O1 := Lib.hid fun W (R : Ending → World → Prop) hR => out23_any px W (R := R) hR
  have O2 := Lib.hid fun W (R : Ending → World → Prop) hR => out23_any py W (R := R) hR
  have O3 := Lib.hid fun W (R : Ending → World → Prop) hR => out23_any qx W (R := R) hR
  have O4 := Lib.hid fun W (R : Ending → World → Prop) hR => out23_any qy W (R := R) hR
  have O5 := Lib.hid fun W (R : Ending → World → Prop) hR => out23_any c W (R := R) hR
  have hs : (Pt.far ⟨px, py⟩ || Pt.far ⟨qx, qy⟩ || !inw c) = false := by rw [hp, hq, hc]; rfl
  have hx := hs
  unfold Pt.far at hx
  simp only [Bool.or_eq_false_iff] at hx
  obtain ⟨⟨⟨x1, x2⟩, x3, x4⟩, x5⟩ := hx
  rw [x1] at O1
  rw [x2] at O2
  rw [x3] at O3
  rw [x4] at O4
  rw [x5] at O5
  clear x1 x2 x3 x4 x5
  have CC := crossCalls (p := ⟨px, py⟩) (q := ⟨qx, qy⟩) (c := c) (up := false) (f := ⟨0, 0, 0⟩) (e := 6) (by unfold crossS crossC; rw [hs, hn]; rfl)
  have C1 := Lib.hid CC.1
  have C2 := Lib.hid CC.2
  clear CC
  unfold Pt.cells Fr.cells at C1 C2
  dsimp only at C1 C2
  obtain ⟨wa, hwa⟩ : ∃ wa, wa = (w.alloc (.cells #[.int .i64 px, .int .i64 py] 24)).alloc (.cells #[.int .i64 qx, .int .i64 qy] 24) := ⟨_, rfl⟩
  have K0 : Hid (∀ W, Grow wa W → W.heap[w.heap.size]? = some (.cells #[.int .i64 px, .int .i64 py] 24 (0, 0))) := fun W h => by
    subst hwa
    exact blk_al w _ _ (((Grow.refl _).al _).tr h)
  have K1 : Hid (∀ W, Grow wa W → W.heap[w.heap.size + 1]? = some (.cells #[.int .i64 qx, .int .i64 qy] 24 (0, 0))) := fun W h => by
    subst hwa
    have := blk_al _ _ _ h
    rwa [World.size_alloc] at this
  have GX : Hid (Grow w wa) := by subst hwa; exact ((Grow.refl w).al _).al _
  have LW : Hid (w.heap.size + 2 ≤ wa.heap.size) := by subst hwa; rw [World.size_alloc, World.size_alloc]; exact Nat.le_refl _
  go_enter Try.func12, Try.ntmps12
  have z0 := cell_of_row _ w.heap.size 0 _ _ (0, 0) (K0.out _ (Grow.refl _))
  have z1 := cell_of_row _ w.heap.size 1 _ _ (0, 0) (K0.out _ (Grow.refl _))
  have y0 := cell_of_row _ (w.heap.size + 1) 0 _ _ (0, 0) (K1.out _ (Grow.refl _))
  have y1 := cell_of_row _ (w.heap.size + 1) 1 _ _ (0, 0) (K1.out _ (Grow.refl _))
  rw [hwa] at z0 z1 y0 y1
  go_wp2_with fail
  rw [← hwa]
  clear hwa z0 z1 y0 y1
  go_at_call 54
  refine C1.out _ _ ?_
  intro w1 hg1
  have G1 := Lib.hid hg1
  clear hg1
  obtain ⟨wb, hwb⟩ : ∃ wb, wb = w1.alloc (.cells #[.int .i64 0, .int .u64 0, .int .u64 0] 33) := ⟨_, rfl⟩
  have GB : Hid (Grow wa wb) := by rw [hwb]; exact G1.out.al _
  have FB : Hid (∀ W, Grow wb W → W.heap[w1.heap.size]? = some (.cells #[.int .i64 0, .int .u64 0, .int .u64 0] 33 (0, 0))) := fun W h => by
    subst hwb
    exact blk_al w1 _ _ h
  have z0 := cell_of_row _ w.heap.size 0 _ _ (0, 0) (K0.out _ (GB.out))
  have z1 := cell_of_row _ w.heap.size 1 _ _ (0, 0) (K0.out _ (GB.out))
  have y0 := cell_of_row _ (w.heap.size + 1) 0 _ _ (0, 0) (K1.out _ (GB.out))
  have y1 := cell_of_row _ (w.heap.size + 1) 1 _ _ (0, 0) (K1.out _ (GB.out))
  rw [hwb] at z0 z1 y0 y1
  go_wp2_with fail
  rw [← hwb]
  clear hwb z0 z1 y0 y1
  go_at_call 54
  refine C2.out _ _ ?_
  intro w2 hg2
  have G2 := Lib.hid hg2
  clear hg2
  obtain ⟨wc, hwc⟩ : ∃ wc, wc = w2.alloc (.cells #[.int .i64 0, .int .u64 0, .int .u64 0] 33) := ⟨_, rfl⟩
  have GC : Hid (Grow wb wc) := by rw [hwc]; exact G2.out.al _
  have b3 : wc.heap[w2.heap.size]? = some (.cells #[.int .i64 0, .int .u64 0, .int .u64 0] 33 (0, 0)) := by rw [hwc]; exact heap_alloc_new w2 _
  have v0 := cell_of_row _ w1.heap.size 0 _ _ (0, 0) (FB.out _ (GC.out))
  have v1 := cell_of_row _ w1.heap.size 1 _ _ (0, 0) (FB.out _ (GC.out))
  have v2 := cell_of_row _ w1.heap.size 2 _ _ (0, 0) (FB.out _ (GC.out))
  have u0 := cell_of_row _ w2.heap.size 0 _ _ (0, 0) b3
  have u1 := cell_of_row _ w2.heap.size 1 _ _ (0, 0) b3
  have u2 := cell_of_row _ w2.heap.size 2 _ _ (0, 0) b3
  clear b3
  rw [hwc] at v0 v1 v2 u0 u1 u2
  go_wp2_with fail
  rw [← hwc]
  clear hwc v0 v1 v2 u0 u1 u2
  go_at_call 55
  refine code23_any _ _ ?_
  go_wp2_with fail
  go_at_call 55
  refine code23_any _ _ ?_
  have K0 := Lib.hid fun W h => K0.out W (GB.out.tr (GC.out.tr h))
  have K1 := Lib.hid fun W h => K1.out W (GB.out.tr (GC.out.tr h))
  have FB := Lib.hid fun W h => FB.out W (GC.out.tr h)
  have GX := Lib.hid (GX.out.tr (GB.out.tr GC.out))
  have LB := Lib.hid (show w.heap.size + 2 ≤ w1.heap.size by have := LW.out; have := G1.out.size; omega)
  clear G1 G2 GB GC C1 C2 LW
  have z0 := cell_of_row _ w.heap.size 0 _ _ (0, 0) (K0.out _ (Grow.refl wc))
  have z1 := cell_of_row _ w.heap.size 1 _ _ (0, 0) (K0.out _ (Grow.refl wc))
  have y0 := cell_of_row _ (w.heap.size + 1) 0 _ _ (0, 0) (K1.out _ (Grow.refl wc))
  have y1 := cell_of_row _ (w.heap.size + 1) 1 _ _ (0, 0) (K1.out _ (Grow.refl wc))
  go_wp2_with fail
  go_at_call 56
  refine O1.out _ _ ?_
  go_wp2_with fail
  go_at_call 56
  refine O2.out _ _ ?_
  go_wp2_with fail
  go_at_call 56
  refine O3.out _ _ ?_
  go_wp2_with fail
  go_at_call 56
  refine O4.out _ _ ?_
  go_wp2_with fail
  go_at_call 56
  refine O5.out _ _ ?_
  clear O1 O2 O3 O4 O5 hs hp hq hc
  by_cases h1 : px = qx
  · have t1 : (px == qx) = true := by rw [beq_iff_eq]; exact h1
    clear h1 hn
    have v0 := cell_of_row _ w1.heap.size 0 _ _ (0, 0) (FB.out _ (Grow.refl wc))
    have v1 := cell_of_row _ w1.heap.size 1 _ _ (0, 0) (FB.out _ (Grow.refl wc))
    have v2 := cell_of_row _ w1.heap.size 2 _ _ (0, 0) (FB.out _ (Grow.refl wc))
    go_wp2_with fail
    go_at_call 55
    refine code23_any _ _ ?_
    clear v0 v1 v2
    go_wp2_with fail
    go_at_call 57
    refine live23_any _ ?_
    intro w99 hg99
    have HG99 := Lib.hid hg99
    clear hg99
    go_wp2
    exact HR.out _ ((GX.out.tr (Grow.refl wc)).tr HG99.out)
  · have t1 : (px == qx) = false := by rw [beq_eq_false_iff_ne]; exact h1
    by_cases h2 : c < min px qx
    · have t2 : decide (c < px) = true := decide_eq_true (by omega)
      have t3 : decide (c < qx) = true := decide_eq_true (by omega)
      clear h1 h2 hn
      have v0 := cell_of_row _ w1.heap.size 0 _ _ (0, 0) (FB.out _ (Grow.refl wc))
      have v1 := cell_of_row _ w1.heap.size 1 _ _ (0, 0) (FB.out _ (Grow.refl wc))
      have v2 := cell_of_row _ w1.heap.size 2 _ _ (0, 0) (FB.out _ (Grow.refl wc))
      go_wp2_with fail
      go_at_call 55
      refine code23_any _ _ ?_
      clear v0 v1 v2
      go_wp2_with fail
      go_at_call 57
      refine live23_any _ ?_
      intro w99 hg99
      have HG99 := Lib.hid hg99
      clear hg99
      go_wp2
      exact HR.out _ ((GX.out.tr (Grow.refl wc)).tr HG99.out)
    · simp only [noneB, Bool.or_eq_true, decide_eq_true_eq] at hn
      have h3 := hn.resolve_left fun h => h.elim h1 h2
      have t2 : decide (c < px) = false := decide_eq_false (by omega)
      have t4 : decide (px < c) = true := decide_eq_true (by omega)
      have t5 : decide (qx < c) = true := decide_eq_true (by omega)
      clear h1 h2 h3 hn
      have v0 := cell_of_row _ w1.heap.size 0 _ _ (0, 0) (FB.out _ (Grow.refl wc))
      have v1 := cell_of_row _ w1.heap.size 1 _ _ (0, 0) (FB.out _ (Grow.refl wc))
      have v2 := cell_of_row _ w1.heap.size 2 _ _ (0, 0) (FB.out _ (Grow.refl wc))
      go_wp2_with fail
      go_at_call 55
      refine code23_any _ _ ?_
      clear v0 v1 v2
      go_wp2_with fail
      go_at_call 57
      refine live23_any _ ?_
      intro w99 hg99
      have HG99 := Lib.hid hg99
      clear hg99
      go_wp2
      exact HR.out _ ((GX.out.tr (Grow.refl wc)).tr HG99.out)

set_option maxRecDepth 100000 in
set_option maxHeartbeats 16000000 in
theorem fcrossNoneUp (px py qx qy c : Int) (w : World) (hp : Pt.far ⟨px, py⟩ = false) (hq : Pt.far ⟨qx, qy⟩ = false) (hc : (!inw c) = false) (hn : noneB ⟨py, px⟩ ⟨qy, qx⟩ c = true) {R : Ending → World → Prop} (hR : ∀ w', Grow w w' → R (.returned (.bool true)) w') :
    Calls Try.prog 12 #[.agg #[.int .i64 px, .int .i64 py], .agg #[.int .i64 qx, .int .i64 qy], .int .i64 c, .bool true] w R := by
  have HR := Lib.hid hR
  clear hR
  have O1 := Lib.hid fun W (R : Ending → World → Prop) hR => out23_any px W (R := R) hR
  have O2 := Lib.hid fun W (R : Ending → World → Prop) hR => out23_any py W (R := R) hR
  have O3 := Lib.hid fun W (R : Ending → World → Prop) hR => out23_any qx W (R := R) hR
  have O4 := Lib.hid fun W (R : Ending → World → Prop) hR => out23_any qy W (R := R) hR
  have O5 := Lib.hid fun W (R : Ending → World → Prop) hR => out23_any c W (R := R) hR
  have hs : (Pt.far ⟨px, py⟩ || Pt.far ⟨qx, qy⟩ || !inw c) = false := by rw [hp, hq, hc]; rfl
  have hx := hs
  unfold Pt.far at hx
  simp only [Bool.or_eq_false_iff] at hx
  obtain ⟨⟨⟨x1, x2⟩, x3, x4⟩, x5⟩ := hx
  rw [x1] at O1
  rw [x2] at O2
  rw [x3] at O3
  rw [x4] at O4
  rw [x5] at O5
  clear x1 x2 x3 x4 x5
  have CC := crossCalls (p := ⟨px, py⟩) (q := ⟨qx, qy⟩) (c := c) (up := true) (f := ⟨0, 0, 0⟩) (e := 6) (by unfold crossS crossC Pt.swap; rw [hs, hn]; rfl)
  have C1 := Lib.hid CC.1
  have C2 := Lib.hid CC.2
  clear CC
  unfold Pt.cells Fr.cells at C1 C2
  dsimp only at C1 C2
  obtain ⟨wa, hwa⟩ : ∃ wa, wa = (w.alloc (.cells #[.int .i64 px, .int .i64 py] 24)).alloc (.cells #[.int .i64 qx, .int .i64 qy] 24) := ⟨_, rfl⟩
  have K0 : Hid (∀ W, Grow wa W → W.heap[w.heap.size]? = some (.cells #[.int .i64 px, .int .i64 py] 24 (0, 0))) := fun W h => by
    subst hwa
    exact blk_al w _ _ (((Grow.refl _).al _).tr h)
  have K1 : Hid (∀ W, Grow wa W → W.heap[w.heap.size + 1]? = some (.cells #[.int .i64 qx, .int .i64 qy] 24 (0, 0))) := fun W h => by
    subst hwa
    have := blk_al _ _ _ h
    rwa [World.size_alloc] at this
  have GX : Hid (Grow w wa) := by subst hwa; exact ((Grow.refl w).al _).al _
  have LW : Hid (w.heap.size + 2 ≤ wa.heap.size) := by subst hwa; rw [World.size_alloc, World.size_alloc]; exact Nat.le_refl _
  go_enter Try.func12, Try.ntmps12
  have z0 := cell_of_row _ w.heap.size 0 _ _ (0, 0) (K0.out _ (Grow.refl _))
  have z1 := cell_of_row _ w.heap.size 1 _ _ (0, 0) (K0.out _ (Grow.refl _))
  have y0 := cell_of_row _ (w.heap.size + 1) 0 _ _ (0, 0) (K1.out _ (Grow.refl _))
  have y1 := cell_of_row _ (w.heap.size + 1) 1 _ _ (0, 0) (K1.out _ (Grow.refl _))
  rw [hwa] at z0 z1 y0 y1
  go_wp2_with fail
  rw [← hwa]
  clear hwa z0 z1 y0 y1
  go_at_call 54
  refine C1.out _ _ ?_
  intro w1 hg1
  have G1 := Lib.hid hg1
  clear hg1
  obtain ⟨wb, hwb⟩ : ∃ wb, wb = w1.alloc (.cells #[.int .i64 0, .int .u64 0, .int .u64 0] 33) := ⟨_, rfl⟩
  have GB : Hid (Grow wa wb) := by rw [hwb]; exact G1.out.al _
  have FB : Hid (∀ W, Grow wb W → W.heap[w1.heap.size]? = some (.cells #[.int .i64 0, .int .u64 0, .int .u64 0] 33 (0, 0))) := fun W h => by
    subst hwb
    exact blk_al w1 _ _ h
  have z0 := cell_of_row _ w.heap.size 0 _ _ (0, 0) (K0.out _ (GB.out))
  have z1 := cell_of_row _ w.heap.size 1 _ _ (0, 0) (K0.out _ (GB.out))
  have y0 := cell_of_row _ (w.heap.size + 1) 0 _ _ (0, 0) (K1.out _ (GB.out))
  have y1 := cell_of_row _ (w.heap.size + 1) 1 _ _ (0, 0) (K1.out _ (GB.out))
  rw [hwb] at z0 z1 y0 y1
  go_wp2_with fail
  rw [← hwb]
  clear hwb z0 z1 y0 y1
  go_at_call 54
  refine C2.out _ _ ?_
  intro w2 hg2
  have G2 := Lib.hid hg2
  clear hg2
  obtain ⟨wc, hwc⟩ : ∃ wc, wc = w2.alloc (.cells #[.int .i64 0, .int .u64 0, .int .u64 0] 33) := ⟨_, rfl⟩
  have GC : Hid (Grow wb wc) := by rw [hwc]; exact G2.out.al _
  have b3 : wc.heap[w2.heap.size]? = some (.cells #[.int .i64 0, .int .u64 0, .int .u64 0] 33 (0, 0)) := by rw [hwc]; exact heap_alloc_new w2 _
  have v0 := cell_of_row _ w1.heap.size 0 _ _ (0, 0) (FB.out _ (GC.out))
  have v1 := cell_of_row _ w1.heap.size 1 _ _ (0, 0) (FB.out _ (GC.out))
  have v2 := cell_of_row _ w1.heap.size 2 _ _ (0, 0) (FB.out _ (GC.out))
  have u0 := cell_of_row _ w2.heap.size 0 _ _ (0, 0) b3
  have u1 := cell_of_row _ w2.heap.size 1 _ _ (0, 0) b3
  have u2 := cell_of_row _ w2.heap.size 2 _ _ (0, 0) b3
  clear b3
  rw [hwc] at v0 v1 v2 u0 u1 u2
  go_wp2_with fail
  rw [← hwc]
  clear hwc v0 v1 v2 u0 u1 u2
  go_at_call 55
  refine code23_any _ _ ?_
  go_wp2_with fail
  go_at_call 55
  refine code23_any _ _ ?_
  have K0 := Lib.hid fun W h => K0.out W (GB.out.tr (GC.out.tr h))
  have K1 := Lib.hid fun W h => K1.out W (GB.out.tr (GC.out.tr h))
  have FB := Lib.hid fun W h => FB.out W (GC.out.tr h)
  have GX := Lib.hid (GX.out.tr (GB.out.tr GC.out))
  have LB := Lib.hid (show w.heap.size + 2 ≤ w1.heap.size by have := LW.out; have := G1.out.size; omega)
  clear G1 G2 GB GC C1 C2 LW
  have z0 := cell_of_row _ w.heap.size 0 _ _ (0, 0) (K0.out _ (Grow.refl wc))
  have z1 := cell_of_row _ w.heap.size 1 _ _ (0, 0) (K0.out _ (Grow.refl wc))
  have y0 := cell_of_row _ (w.heap.size + 1) 0 _ _ (0, 0) (K1.out _ (Grow.refl wc))
  have y1 := cell_of_row _ (w.heap.size + 1) 1 _ _ (0, 0) (K1.out _ (Grow.refl wc))
  go_wp2_with fail
  go_at_call 56
  refine O1.out _ _ ?_
  go_wp2_with fail
  go_at_call 56
  refine O2.out _ _ ?_
  go_wp2_with fail
  go_at_call 56
  refine O3.out _ _ ?_
  go_wp2_with fail
  go_at_call 56
  refine O4.out _ _ ?_
  go_wp2_with fail
  go_at_call 56
  refine O5.out _ _ ?_
  clear O1 O2 O3 O4 O5 hs hp hq hc
  have kp := K0.out _ (Grow.refl wc)
  have kq := K1.out _ (Grow.refl wc)
  have zf0 := frozen_of_row _ w.heap.size 0 _ _ kp
  have zf1 := frozen_of_row _ w.heap.size 1 _ _ kp
  have yf0 := frozen_of_row _ (w.heap.size + 1) 0 _ _ kq
  have yf1 := frozen_of_row _ (w.heap.size + 1) 1 _ _ kq
  clear kp kq
  go_wp2_with fail
  go_region
  obtain ⟨wd, hwd⟩ : ∃ wd, wd = (st2 (st2 wc w.heap.size (.int .i64 py) (.int .i64 px)) (w.heap.size + 1) (.int .i64 qy) (.int .i64 qx)).drew := ⟨_, rfl⟩
  have K0 : Hid (∀ W, Grow wd W → W.heap[w.heap.size]? = some (.cells #[.int .i64 py, .int .i64 px] 24 (0, 0))) := fun W h => by
    subst hwd
    exact grow_blk h ((st2_other (by omega) _ _).trans (st2_same (K0.out _ (Grow.refl _)) _ _))
  have K1 : Hid (∀ W, Grow wd W → W.heap[w.heap.size + 1]? = some (.cells #[.int .i64 qy, .int .i64 qx] 24 (0, 0))) := fun W h => by
    subst hwd
    exact grow_blk h (st2_same ((st2_other (by omega) _ _).trans (K1.out _ (Grow.refl _))) _ _)
  have FB : Hid (∀ W, Grow wd W → W.heap[w1.heap.size]? = some (.cells #[.int .i64 0, .int .u64 0, .int .u64 0] 33 (0, 0))) := fun W h => by
    subst hwd
    have lb := LB.out
    exact grow_blk h ((st2_other (by omega) _ _).trans ((st2_other (by omega) _ _).trans (FB.out _ (Grow.refl _))))
  have GX : Hid (Grow w wd) := by
    subst hwd
    exact ((GX.out.st2 (by omega) _ _).st2 (by omega) _ _).dr
  simp only [st2] at hwd
  rw [← hwd]
  clear hwd z0 z1 y0 y1 zf0 zf1 yf0 yf1
  have z0 := cell_of_row _ w.heap.size 0 _ _ (0, 0) (K0.out _ (Grow.refl wd))
  have z1 := cell_of_row _ w.heap.size 1 _ _ (0, 0) (K0.out _ (Grow.refl wd))
  have y0 := cell_of_row _ (w.heap.size + 1) 0 _ _ (0, 0) (K1.out _ (Grow.refl wd))
  have y1 := cell_of_row _ (w.heap.size + 1) 1 _ _ (0, 0) (K1.out _ (Grow.refl wd))
  by_cases h1 : py = qy
  · have t1 : (py == qy) = true := by rw [beq_iff_eq]; exact h1
    clear h1 hn
    have v0 := cell_of_row _ w1.heap.size 0 _ _ (0, 0) (FB.out _ (Grow.refl wd))
    have v1 := cell_of_row _ w1.heap.size 1 _ _ (0, 0) (FB.out _ (Grow.refl wd))
    have v2 := cell_of_row _ w1.heap.size 2 _ _ (0, 0) (FB.out _ (Grow.refl wd))
    go_wp2_with fail
    go_at_call 55
    refine code23_any _ _ ?_
    clear v0 v1 v2
    go_wp2_with fail
    go_at_call 57
    refine live23_any _ ?_
    intro w99 hg99
    have HG99 := Lib.hid hg99
    clear hg99
    go_wp2
    exact HR.out _ ((GX.out.tr (Grow.refl wd)).tr HG99.out)
  · have t1 : (py == qy) = false := by rw [beq_eq_false_iff_ne]; exact h1
    by_cases h2 : c < min py qy
    · have t2 : decide (c < py) = true := decide_eq_true (by omega)
      have t3 : decide (c < qy) = true := decide_eq_true (by omega)
      clear h1 h2 hn
      have v0 := cell_of_row _ w1.heap.size 0 _ _ (0, 0) (FB.out _ (Grow.refl wd))
      have v1 := cell_of_row _ w1.heap.size 1 _ _ (0, 0) (FB.out _ (Grow.refl wd))
      have v2 := cell_of_row _ w1.heap.size 2 _ _ (0, 0) (FB.out _ (Grow.refl wd))
      go_wp2_with fail
      go_at_call 55
      refine code23_any _ _ ?_
      clear v0 v1 v2
      go_wp2_with fail
      go_at_call 57
      refine live23_any _ ?_
      intro w99 hg99
      have HG99 := Lib.hid hg99
      clear hg99
      go_wp2
      exact HR.out _ ((GX.out.tr (Grow.refl wd)).tr HG99.out)
    · simp only [noneB, Bool.or_eq_true, decide_eq_true_eq] at hn
      have h3 := hn.resolve_left fun h => h.elim h1 h2
      have t2 : decide (c < py) = false := decide_eq_false (by omega)
      have t4 : decide (py < c) = true := decide_eq_true (by omega)
      have t5 : decide (qy < c) = true := decide_eq_true (by omega)
      clear h1 h2 h3 hn
      have v0 := cell_of_row _ w1.heap.size 0 _ _ (0, 0) (FB.out _ (Grow.refl wd))
      have v1 := cell_of_row _ w1.heap.size 1 _ _ (0, 0) (FB.out _ (Grow.refl wd))
      have v2 := cell_of_row _ w1.heap.size 2 _ _ (0, 0) (FB.out _ (Grow.refl wd))
      go_wp2_with fail
      go_at_call 55
      refine code23_any _ _ ?_
      clear v0 v1 v2
      go_wp2_with fail
      go_at_call 57
      refine live23_any _ ?_
      intro w99 hg99
      have HG99 := Lib.hid hg99
      clear hg99
      go_wp2
      exact HR.out _ ((GX.out.tr (Grow.refl wd)).tr HG99.out)
end Go.Proofs.Ythgibnmnjoniiaa
