/-
  FracCrosses, where the line crosses.
-/
import Derived.Test.YthgibnmnjoniiaaChecked
import Derived.Test.YthgibnmnjoniiaaFracCrosses
namespace Go.Proofs.Ythgibnmnjoniiaa
open Go.RowKit Go.Lib B

-- up to the test of the numbers: world wc; slot 9 lies in block w1.heap.size
-- the fraction, the error, the example



theorem inw_iff {n : Int} (h : inw n = true) : -4503599627370496 ≤ n ∧ n ≤ 4503599627370496 := by
  simpa [inw] using h
/-- what the law needs of the fraction -/
theorem crossHave {p q : Pt} {c : Int} (hp : p.far = false) (hq : q.far = false) (hc : (!inw c) = false) (hn : noneB p q c = false) {f : Fr} (hf : crossF p q c = f) :
    (∀ W (R : Ending → World → Prop), (∀ v w', Grow W w' → RatR w' (fun b => W.heap.size ≤ b) v (p.y * atD p q + atN p q c * 1) (1 * atD p q) 19 13 → R (.returned v) w') → Calls Try.prog 59 #[.agg p.cells.toArray, .agg q.cells.toArray, .int .i64 c] W R) ∧
    (∀ v S W, RatR W S v (p.y * atD p q + atN p q c * 1) (1 * atD p q) 19 13 → ∀ (R : Ending → World → Prop), (∀ w', Grow W w' → R (.returned (.bool true)) w') → Calls Try.prog 58 #[.agg f.cells.toArray, v] W R) := by
  obtain ⟨f1, f2⟩ := far_false hp
  obtain ⟨f3, f4⟩ := far_false hq
  have hc' : inw c = true := by simpa using hc
  have ci := inw_iff hc'
  refine ⟨fun W R hR => at23_any p q c W ⟨⟨by omega, by omega⟩, by omega, by omega⟩ ⟨⟨by omega, by omega⟩, by omega, by omega⟩ ⟨by omega, by omega⟩ hR, fun v S W hv R hR => ?_⟩
  obtain ⟨h1, h2⟩ := cross_is hp hq hn
  rw [hf] at h1 h2
  obtain ⟨⟨r1, r2⟩, r3, r4, r5, -⟩ := Fr.right_iff h1
  refine is23_any f _ _ 19 13 v S W ⟨by omega, by omega, by omega, by omega⟩ h1 hv (by omega) (by omega) ?_ hR
  rw [atD_eq, atN_eq, Int.one_mul, Int.mul_one, h2]
  omega


set_option maxRecDepth 100000 in
set_option maxHeartbeats 32000000 in
theorem fcrossIs (px py qx qy c : Int) (w : World) (hp : Pt.far ⟨px, py⟩ = false) (hq : Pt.far ⟨qx, qy⟩ = false) (hc : (!inw c) = false) (hn : noneB ⟨px, py⟩ ⟨qx, qy⟩ c = false) {R : Ending → World → Prop} (hR : ∀ w', Grow w w' → R (.returned (.bool true)) w') :
    Calls Try.prog 12 #[.agg #[.int .i64 px, .int .i64 py], .agg #[.int .i64 qx, .int .i64 qy], .int .i64 c, .bool false] w R := by
  have HR := Lib.hid hR
  clear hR
  have O1 := Lib.hid fun W (R : Ending → World → Prop) hR => out23_any px W (R := R) hR
  have O2 := Lib.hid fun W (R : Ending → World → Prop) hR => out23_any py W (R := R) hR
  have O3 := Lib.hid fun W (R : Ending → World → Prop) hR => out23_any qx W (R := R) hR
  have O4 := Lib.hid fun W (R : Ending → World → Prop) hR => out23_any qy W (R := R) hR
  have O5 := Lib.hid fun W (R : Ending → World → Prop) hR => out23_any c W (R := R) hR
  have hs : (Pt.far ⟨px, py⟩ || Pt.far ⟨qx, qy⟩ || !inw c) = false := by rw [hp, hq, hc]; rfl
  have hx := hs
  unfold Pt.far at hx
  simp only [Bool.or_eq_false_iff] at hx
  obtain ⟨⟨⟨x1, x2⟩, x3, x4⟩, x5⟩ := hx
  rw [x1] at O1
  rw [x2] at O2
  rw [x3] at O3
  rw [x4] at O4
  rw [x5] at O5
  clear x1 x2 x3 x4 x5
  have OF := Lib.hid fun W (R : Ending → World → Prop) hR => of23_any py W (R := R) hR
  obtain ⟨h1, h2, h3⟩ := noneB_false hn
  dsimp only at h1 h2 h3
  have t1 : (px == qx) = false := by rw [beq_eq_false_iff_ne]; exact h1
  obtain ⟨f, hf⟩ : ∃ f, crossF ⟨px, py⟩ ⟨qx, qy⟩ c = f := ⟨_, rfl⟩
  have CRS : Hid (crossS ⟨px, py⟩ ⟨qx, qy⟩ c false = (f, 0)) := by
    show _ = _
    unfold crossS
    rw [hs]
    show crossC ⟨px, py⟩ ⟨qx, qy⟩ c = _
    unfold crossC
    rw [hn, hf]
    rfl
  have CH := crossHave (p := ⟨px, py⟩) (q := ⟨qx, qy⟩) hp hq hc hn hf
  have AT := Lib.hid CH.1
  have IS := Lib.hid CH.2
  have CA := cross_at (p := ⟨px, py⟩) (q := ⟨qx, qy⟩) (c := c) hn
  rw [hf] at CA
  obtain ⟨fq, fr, fd⟩ := f
  clear CH hf hn hs hp hq hc
  simp only [Pt.cells, Fr.cells] at AT IS
  try dsimp only at CA
  rcases Int.lt_trichotomy c px with h4 | h4 | h4
  · have t2 : decide (c < px) = true := decide_eq_true h4
    have t3 : decide (c < qx) = false := decide_eq_false (by omega)
    have t4 : decide (px < c) = false := decide_eq_false (by omega)
    have t6 : (c != px) = true := by rw [bne_iff_ne]; omega
    clear h1 h2 h3 h4 CA
    have CC := crossCalls (p := ⟨px, py⟩) (q := ⟨qx, qy⟩) (c := c) (up := false) (f := ⟨fq, fr, fd⟩) (e := 0) CRS.out
    have C1 := Lib.hid CC.1
    have C2 := Lib.hid CC.2
    clear CC
    unfold Pt.cells Fr.cells at C1 C2
    dsimp only at C1 C2
    obtain ⟨wa, hwa⟩ : ∃ wa, wa = (w.alloc (.cells #[.int .i64 px, .int .i64 py] 24)).alloc (.cells #[.int .i64 qx, .int .i64 qy] 24) := ⟨_, rfl⟩
    have K0 : Hid (∀ W, Grow wa W → W.heap[w.heap.size]? = some (.cells #[.int .i64 px, .int .i64 py] 24 (0, 0))) := fun W h => by
      subst hwa
      exact blk_al w _ _ (((Grow.refl _).al _).tr h)
    have K1 : Hid (∀ W, Grow wa W → W.heap[w.heap.size + 1]? = some (.cells #[.int .i64 qx, .int .i64 qy] 24 (0, 0))) := fun W h => by
      subst hwa
      have := blk_al _ _ _ h
      rwa [World.size_alloc] at this
    have GX : Hid (Grow w wa) := by subst hwa; exact ((Grow.refl w).al _).al _
    have LW : Hid (w.heap.size + 2 ≤ wa.heap.size) := by subst hwa; rw [World.size_alloc, World.size_alloc]; exact Nat.le_refl _
    go_enter Try.func12, Try.ntmps12
    have z0 := cell_of_row _ w.heap.size 0 _ _ (0, 0) (K0.out _ (Grow.refl _))
    have z1 := cell_of_row _ w.heap.size 1 _ _ (0, 0) (K0.out _ (Grow.refl _))
    have y0 := cell_of_row _ (w.heap.size + 1) 0 _ _ (0, 0) (K1.out _ (Grow.refl _))
    have y1 := cell_of_row _ (w.heap.size + 1) 1 _ _ (0, 0) (K1.out _ (Grow.refl _))
    rw [hwa] at z0 z1 y0 y1
    go_wp2_with fail
    rw [← hwa]
    clear hwa z0 z1 y0 y1
    go_at_call 54
    refine C1.out _ _ ?_
    intro w1 hg1
    have G1 := Lib.hid hg1
    clear hg1
    obtain ⟨wb, hwb⟩ : ∃ wb, wb = w1.alloc (.cells #[.int .i64 fq, .int .u64 fr, .int .u64 fd] 33) := ⟨_, rfl⟩
    have GB : Hid (Grow wa wb) := by rw [hwb]; exact G1.out.al _
    have FB : Hid (∀ W, Grow wb W → W.heap[w1.heap.size]? = some (.cells #[.int .i64 fq, .int .u64 fr, .int .u64 fd] 33 (0, 0))) := fun W h => by
      subst hwb
      exact blk_al w1 _ _ h
    have z0 := cell_of_row _ w.heap.size 0 _ _ (0, 0) (K0.out _ (GB.out))
    have z1 := cell_of_row _ w.heap.size 1 _ _ (0, 0) (K0.out _ (GB.out))
    have y0 := cell_of_row _ (w.heap.size + 1) 0 _ _ (0, 0) (K1.out _ (GB.out))
    have y1 := cell_of_row _ (w.heap.size + 1) 1 _ _ (0, 0) (K1.out _ (GB.out))
    rw [hwb] at z0 z1 y0 y1
    go_wp2_with fail
    rw [← hwb]
    clear hwb z0 z1 y0 y1
    go_at_call 54
    refine C2.out _ _ ?_
    intro w2 hg2
    have G2 := Lib.hid hg2
    clear hg2
    obtain ⟨wc, hwc⟩ : ∃ wc, wc = w2.alloc (.cells #[.int .i64 fq, .int .u64 fr, .int .u64 fd] 33) := ⟨_, rfl⟩
    have GC : Hid (Grow wb wc) := by rw [hwc]; exact G2.out.al _
    have b3 : wc.heap[w2.heap.size]? = some (.cells #[.int .i64 fq, .int .u64 fr, .int .u64 fd] 33 (0, 0)) := by rw [hwc]; exact heap_alloc_new w2 _
    have v0 := cell_of_row _ w1.heap.size 0 _ _ (0, 0) (FB.out _ (GC.out))
    have v1 := cell_of_row _ w1.heap.size 1 _ _ (0, 0) (FB.out _ (GC.out))
    have v2 := cell_of_row _ w1.heap.size 2 _ _ (0, 0) (FB.out _ (GC.out))
    have u0 := cell_of_row _ w2.heap.size 0 _ _ (0, 0) b3
    have u1 := cell_of_row _ w2.heap.size 1 _ _ (0, 0) b3
    have u2 := cell_of_row _ w2.heap.size 2 _ _ (0, 0) b3
    clear b3
    rw [hwc] at v0 v1 v2 u0 u1 u2
    go_wp2_with fail
    rw [← hwc]
    clear hwc v0 v1 v2 u0 u1 u2
    go_at_call 55
    refine code23_any _ _ ?_
    go_wp2_with fail
    go_at_call 55
    refine code23_any _ _ ?_
    have K0 := Lib.hid fun W h => K0.out W (GB.out.tr (GC.out.tr h))
    have K1 := Lib.hid fun W h => K1.out W (GB.out.tr (GC.out.tr h))
    have FB := Lib.hid fun W h => FB.out W (GC.out.tr h)
    have GX := Lib.hid (GX.out.tr (GB.out.tr GC.out))
    have LB := Lib.hid (show w.heap.size + 2 ≤ w1.heap.size by have := LW.out; have := G1.out.size; omega)
    clear G1 G2 GB GC C1 C2 LW
    have z0 := cell_of_row _ w.heap.size 0 _ _ (0, 0) (K0.out _ (Grow.refl wc))
    have z1 := cell_of_row _ w.heap.size 1 _ _ (0, 0) (K0.out _ (Grow.refl wc))
    have y0 := cell_of_row _ (w.heap.size + 1) 0 _ _ (0, 0) (K1.out _ (Grow.refl wc))
    have y1 := cell_of_row _ (w.heap.size + 1) 1 _ _ (0, 0) (K1.out _ (Grow.refl wc))
    go_wp2_with fail
    go_at_call 56
    refine O1.out _ _ ?_
    go_wp2_with fail
    go_at_call 56
    refine O2.out _ _ ?_
    go_wp2_with fail
    go_at_call 56
    refine O3.out _ _ ?_
    go_wp2_with fail
    go_at_call 56
    refine O4.out _ _ ?_
    go_wp2_with fail
    go_at_call 56
    refine O5.out _ _ ?_
    clear O1 O2 O3 O4 O5 CRS
    skip
    go_wp2_with fail
    clear z0 z1 y0 y1 t1 t2 t3 t4
    refine wp_region_lexT (Grow wc) ((Grow.refl wc).dr) 21 [0, 1, 2, 3, 4, 5, 6, 7, 8, 9, 10, 11, 12, 13, 14, 15, 16, 17, 18, 19, 20] (by kernel_rfl) (by kernel_rfl) (by intro c a d v w h; cases d <;> exact h) ?_
    iterate 1 (apply lext_take; exact rfl; exact rfl; (intro W hW; (try clear hW); go_simp; with_reducible rfl); try simp only [Act.put, List.setIfInBounds_toArray, List.set_cons_zero, List.set_cons_succ])
    apply lext_turn; exact rfl; exact rfl; exact rfl; intro K hK; go_simp; go_at_call 55; refine code23_any _ _ ?_; refine hK.out _ _ (Grow.refl wc).dr ?_; clear hK
    try simp only [Act.put, List.setIfInBounds_toArray, List.set_cons_zero, List.set_cons_succ]
    iterate 2 (apply lext_take; exact rfl; exact rfl; (intro W hW; (try clear hW); go_simp; with_reducible rfl); try simp only [Act.put, List.setIfInBounds_toArray, List.set_cons_zero, List.set_cons_succ])
    apply lext_take; exact rfl; exact rfl
    · intro W hW
      have v0 := cell_of_row _ w1.heap.size 0 _ _ (0, 0) (FB.out _ hW)
      have v1 := cell_of_row _ w1.heap.size 1 _ _ (0, 0) (FB.out _ hW)
      have v2 := cell_of_row _ w1.heap.size 2 _ _ (0, 0) (FB.out _ hW)
      clear hW
      go_simp
      with_reducible rfl
    try simp only [Act.put, List.setIfInBounds_toArray, List.set_cons_zero, List.set_cons_succ]
    iterate 2 (apply lext_take; exact rfl; exact rfl; (intro W hW; have z0 := cell_of_row _ w.heap.size 0 _ _ (0, 0) (K0.out _ hW); have z1 := cell_of_row _ w.heap.size 1 _ _ (0, 0) (K0.out _ hW); have y0 := cell_of_row _ (w.heap.size + 1) 0 _ _ (0, 0) (K1.out _ hW); have y1 := cell_of_row _ (w.heap.size + 1) 1 _ _ (0, 0) (K1.out _ hW); (try clear hW); go_simp; with_reducible rfl); try simp only [Act.put, List.setIfInBounds_toArray, List.set_cons_zero, List.set_cons_succ])
    iterate 1 (apply lext_take; exact rfl; exact rfl; (intro W hW; (try clear hW); go_simp; with_reducible rfl); try simp only [Act.put, List.setIfInBounds_toArray, List.set_cons_zero, List.set_cons_succ])
    apply lext_turn; exact rfl; exact rfl; exact rfl; intro K hK; go_simp; go_at_call 59; refine AT.out _ _ ?_; intro va w3 hg3 hva
    have G3 := Lib.hid ((Grow.refl wc).dr.tr hg3)
    have VA := Lib.hid hva
    refine hK.out _ _ G3.out ?_
    clear hK hg3 hva
    try simp only [Act.put, List.setIfInBounds_toArray, List.set_cons_zero, List.set_cons_succ]
    apply lext_turn; exact rfl; exact rfl; exact rfl; intro K hK; go_simp; go_at_call 58; refine IS.out _ _ _ VA.out _ ?_; intro w4 hg4
    have G4 := Lib.hid (G3.out.tr hg4)
    refine hK.out _ _ G4.out ?_
    clear hK hg4 G3 VA
    try simp only [Act.put, List.setIfInBounds_toArray, List.set_cons_zero, List.set_cons_succ]
    iterate 7 (apply lext_take; exact rfl; exact rfl; (intro W hW; have z0 := cell_of_row _ w.heap.size 0 _ _ (0, 0) (K0.out _ hW); have z1 := cell_of_row _ w.heap.size 1 _ _ (0, 0) (K0.out _ hW); (try clear hW); go_simp; with_reducible rfl); try simp only [Act.put, List.setIfInBounds_toArray, List.set_cons_zero, List.set_cons_succ])
    iterate 4 (apply lext_skip; exact rfl; exact rfl; try simp only [Act.put, List.setIfInBounds_toArray, List.set_cons_zero, List.set_cons_succ])
    refine lext_nil ?_
    simp only [List.drop_succ_cons, List.drop_zero]
    go_wp2_with fail
    go_at_call 57
    refine live23_any _ ?_
    intro w99 hg99
    have HG99 := Lib.hid hg99
    clear hg99
    go_wp2
    exact HR.out _ ((GX.out.tr G4.out).tr HG99.out)
  · have CA := CA h4
    simp only [Fr.mk.injEq] at CA
    obtain ⟨e1, rfl, rfl⟩ := CA
    have e1 := e1.symm
    subst e1
    have t2 : decide (c < px) = false := decide_eq_false (by omega)
    have t4 : decide (px < c) = false := decide_eq_false (by omega)
    have t6 : (c != px) = false := by rw [bne_eq_false_iff_eq]; exact h4
    clear h1 h2 h3 h4
    have CC := crossCalls (p := ⟨px, py⟩) (q := ⟨qx, qy⟩) (c := c) (up := false) (f := ⟨py, 0, 1⟩) (e := 0) CRS.out
    have C1 := Lib.hid CC.1
    have C2 := Lib.hid CC.2
    clear CC
    unfold Pt.cells Fr.cells at C1 C2
    dsimp only at C1 C2
    obtain ⟨wa, hwa⟩ : ∃ wa, wa = (w.alloc (.cells #[.int .i64 px, .int .i64 py] 24)).alloc (.cells #[.int .i64 qx, .int .i64 qy] 24) := ⟨_, rfl⟩
    have K0 : Hid (∀ W, Grow wa W → W.heap[w.heap.size]? = some (.cells #[.int .i64 px, .int .i64 py] 24 (0, 0))) := fun W h => by
      subst hwa
      exact blk_al w _ _ (((Grow.refl _).al _).tr h)
    have K1 : Hid (∀ W, Grow wa W → W.heap[w.heap.size + 1]? = some (.cells #[.int .i64 qx, .int .i64 qy] 24 (0, 0))) := fun W h => by
      subst hwa
      have := blk_al _ _ _ h
      rwa [World.size_alloc] at this
    have GX : Hid (Grow w wa) := by subst hwa; exact ((Grow.refl w).al _).al _
    have LW : Hid (w.heap.size + 2 ≤ wa.heap.size) := by subst hwa; rw [World.size_alloc, World.size_alloc]; exact Nat.le_refl _
    go_enter Try.func12, Try.ntmps12
    have z0 := cell_of_row _ w.heap.size 0 _ _ (0, 0) (K0.out _ (Grow.refl _))
    have z1 := cell_of_row _ w.heap.size 1 _ _ (0, 0) (K0.out _ (Grow.refl _))
    have y0 := cell_of_row _ (w.heap.size + 1) 0 _ _ (0, 0) (K1.out _ (Grow.refl _))
    have y1 := cell_of_row _ (w.heap.size + 1) 1 _ _ (0, 0) (K1.out _ (Grow.refl _))
    rw [hwa] at z0 z1 y0 y1
    go_wp2_with fail
    rw [← hwa]
    clear hwa z0 z1 y0 y1
    go_at_call 54
    refine C1.out _ _ ?_
    intro w1 hg1
    have G1 := Lib.hid hg1
    clear hg1
    obtain ⟨wb, hwb⟩ : ∃ wb, wb = w1.alloc (.cells #[.int .i64 py, .int .u64 0, .int .u64 1] 33) := ⟨_, rfl⟩
    have GB : Hid (Grow wa wb) := by rw [hwb]; exact G1.out.al _
    have FB : Hid (∀ W, Grow wb W → W.heap[w1.heap.size]? = some (.cells #[.int .i64 py, .int .u64 0, .int .u64 1] 33 (0, 0))) := fun W h => by
      subst hwb
      exact blk_al w1 _ _ h
    have z0 := cell_of_row _ w.heap.size 0 _ _ (0, 0) (K0.out _ (GB.out))
    have z1 := cell_of_row _ w.heap.size 1 _ _ (0, 0) (K0.out _ (GB.out))
    have y0 := cell_of_row _ (w.heap.size + 1) 0 _ _ (0, 0) (K1.out _ (GB.out))
    have y1 := cell_of_row _ (w.heap.size + 1) 1 _ _ (0, 0) (K1.out _ (GB.out))
    rw [hwb] at z0 z1 y0 y1
    go_wp2_with fail
    rw [← hwb]
    clear hwb z0 z1 y0 y1
    go_at_call 54
    refine C2.out _ _ ?_
    intro w2 hg2
    have G2 := Lib.hid hg2
    clear hg2
    obtain ⟨wc, hwc⟩ : ∃ wc, wc = w2.alloc (.cells #[.int .i64 py, .int .u64 0, .int .u64 1] 33) := ⟨_, rfl⟩
    have GC : Hid (Grow wb wc) := by rw [hwc]; exact G2.out.al _
    have b3 : wc.heap[w2.heap.size]? = some (.cells #[.int .i64 py, .int .u64 0, .int .u64 1] 33 (0, 0)) := by rw [hwc]; exact heap_alloc_new w2 _
    have v0 := cell_of_row _ w1.heap.size 0 _ _ (0, 0) (FB.out _ (GC.out))
    have v1 := cell_of_row _ w1.heap.size 1 _ _ (0, 0) (FB.out _ (GC.out))
    have v2 := cell_of_row _ w1.heap.size 2 _ _ (0, 0) (FB.out _ (GC.out))
    have u0 := cell_of_row _ w2.heap.size 0 _ _ (0, 0) b3
    have u1 := cell_of_row _ w2.heap.size 1 _ _ (0, 0) b3
    have u2 := cell_of_row _ w2.heap.size 2 _ _ (0, 0) b3
    clear b3
    rw [hwc] at v0 v1 v2 u0 u1 u2
    go_wp2_with fail
    rw [← hwc]
    clear hwc v0 v1 v2 u0 u1 u2
    go_at_call 55
    refine code23_any _ _ ?_
    go_wp2_with fail
    go_at_call 55
    refine code23_any _ _ ?_
    have K0 := Lib.hid fun W h => K0.out W (GB.out.tr (GC.out.tr h))
    have K1 := Lib.hid fun W h => K1.out W (GB.out.tr (GC.out.tr h))
    have FB := Lib.hid fun W h => FB.out W (GC.out.tr h)
    have GX := Lib.hid (GX.out.tr (GB.out.tr GC.out))
    have LB := Lib.hid (show w.heap.size + 2 ≤ w1.heap.size by have := LW.out; have := G1.out.size; omega)
    clear G1 G2 GB GC C1 C2 LW
    have z0 := cell_of_row _ w.heap.size 0 _ _ (0, 0) (K0.out _ (Grow.refl wc))
    have z1 := cell_of_row _ w.heap.size 1 _ _ (0, 0) (K0.out _ (Grow.refl wc))
    have y0 := cell_of_row _ (w.heap.size + 1) 0 _ _ (0, 0) (K1.out _ (Grow.refl wc))
    have y1 := cell_of_row _ (w.heap.size + 1) 1 _ _ (0, 0) (K1.out _ (Grow.refl wc))
    go_wp2_with fail
    go_at_call 56
    refine O1.out _ _ ?_
    go_wp2_with fail
    go_at_call 56
    refine O2.out _ _ ?_
    go_wp2_with fail
    go_at_call 56
    refine O3.out _ _ ?_
    go_wp2_with fail
    go_at_call 56
    refine O4.out _ _ ?_
    go_wp2_with fail
    go_at_call 56
    refine O5.out _ _ ?_
    clear O1 O2 O3 O4 O5 CRS
    skip
    go_wp2_with fail
    clear z0 z1 y0 y1 t1 t2 t4
    refine wp_region_lexT (Grow wc) ((Grow.refl wc).dr) 21 [0, 1, 2, 3, 4, 5, 6, 7, 8, 9, 10, 11, 12, 13, 14, 15, 16, 17, 18, 19, 20] (by kernel_rfl) (by kernel_rfl) (by intro c a d v w h; cases d <;> exact h) ?_
    iterate 1 (apply lext_take; exact rfl; exact rfl; (intro W hW; (try clear hW); go_simp; with_reducible rfl); try simp only [Act.put, List.setIfInBounds_toArray, List.set_cons_zero, List.set_cons_succ])
    apply lext_turn; exact rfl; exact rfl; exact rfl; intro K hK; go_simp; go_at_call 55; refine code23_any _ _ ?_; refine hK.out _ _ (Grow.refl wc).dr ?_; clear hK
    try simp only [Act.put, List.setIfInBounds_toArray, List.set_cons_zero, List.set_cons_succ]
    iterate 2 (apply lext_take; exact rfl; exact rfl; (intro W hW; (try clear hW); go_simp; with_reducible rfl); try simp only [Act.put, List.setIfInBounds_toArray, List.set_cons_zero, List.set_cons_succ])
    apply lext_take; exact rfl; exact rfl
    · intro W hW
      have v0 := cell_of_row _ w1.heap.size 0 _ _ (0, 0) (FB.out _ hW)
      have v1 := cell_of_row _ w1.heap.size 1 _ _ (0, 0) (FB.out _ hW)
      have v2 := cell_of_row _ w1.heap.size 2 _ _ (0, 0) (FB.out _ hW)
      clear hW
      go_simp
      with_reducible rfl
    try simp only [Act.put, List.setIfInBounds_toArray, List.set_cons_zero, List.set_cons_succ]
    iterate 2 (apply lext_take; exact rfl; exact rfl; (intro W hW; have z0 := cell_of_row _ w.heap.size 0 _ _ (0, 0) (K0.out _ hW); have z1 := cell_of_row _ w.heap.size 1 _ _ (0, 0) (K0.out _ hW); have y0 := cell_of_row _ (w.heap.size + 1) 0 _ _ (0, 0) (K1.out _ hW); have y1 := cell_of_row _ (w.heap.size + 1) 1 _ _ (0, 0) (K1.out _ hW); (try clear hW); go_simp; with_reducible rfl); try simp only [Act.put, List.setIfInBounds_toArray, List.set_cons_zero, List.set_cons_succ])
    iterate 1 (apply lext_take; exact rfl; exact rfl; (intro W hW; (try clear hW); go_simp; with_reducible rfl); try simp only [Act.put, List.setIfInBounds_toArray, List.set_cons_zero, List.set_cons_succ])
    apply lext_turn; exact rfl; exact rfl; exact rfl; intro K hK; go_simp; go_at_call 59; refine AT.out _ _ ?_; intro va w3 hg3 hva
    have G3 := Lib.hid ((Grow.refl wc).dr.tr hg3)
    have VA := Lib.hid hva
    refine hK.out _ _ G3.out ?_
    clear hK hg3 hva
    try simp only [Act.put, List.setIfInBounds_toArray, List.set_cons_zero, List.set_cons_succ]
    apply lext_turn; exact rfl; exact rfl; exact rfl; intro K hK; go_simp; go_at_call 58; refine IS.out _ _ _ VA.out _ ?_; intro w4 hg4
    have G4 := Lib.hid (G3.out.tr hg4)
    refine hK.out _ _ G4.out ?_
    clear hK hg4 G3 VA
    try simp only [Act.put, List.setIfInBounds_toArray, List.set_cons_zero, List.set_cons_succ]
    iterate 7 (apply lext_take; exact rfl; exact rfl; (intro W hW; have z0 := cell_of_row _ w.heap.size 0 _ _ (0, 0) (K0.out _ hW); have z1 := cell_of_row _ w.heap.size 1 _ _ (0, 0) (K0.out _ hW); (try clear hW); go_simp; with_reducible rfl); try simp only [Act.put, List.setIfInBounds_toArray, List.set_cons_zero, List.set_cons_succ])
    apply lext_take; exact rfl; exact rfl
    · intro W hW
      have v0 := cell_of_row _ w1.heap.size 0 _ _ (0, 0) (FB.out _ hW)
      have v1 := cell_of_row _ w1.heap.size 1 _ _ (0, 0) (FB.out _ hW)
      have v2 := cell_of_row _ w1.heap.size 2 _ _ (0, 0) (FB.out _ hW)
      clear hW
      go_simp
      with_reducible rfl
    try simp only [Act.put, List.setIfInBounds_toArray, List.set_cons_zero, List.set_cons_succ]
    iterate 2 (apply lext_take; exact rfl; exact rfl; (intro W hW; have z0 := cell_of_row _ w.heap.size 0 _ _ (0, 0) (K0.out _ hW); have z1 := cell_of_row _ w.heap.size 1 _ _ (0, 0) (K0.out _ hW); (try clear hW); go_simp; with_reducible rfl); try simp only [Act.put, List.setIfInBounds_toArray, List.set_cons_zero, List.set_cons_succ])
    apply lext_turn; exact rfl; exact rfl; exact rfl; intro K hK; go_simp; go_at_call 60; refine OF.out _ _ ?_; intro w5 hg5
    have G5 := Lib.hid (G4.out.tr hg5)
    refine hK.out _ _ G5.out ?_
    clear hK hg5
    try simp only [Act.put, List.setIfInBounds_toArray, List.set_cons_zero, List.set_cons_succ]
    refine lext_nil ?_
    simp only [List.drop_succ_cons, List.drop_zero]
    go_wp2_with fail
    go_at_call 57
    refine live23_any _ ?_
    intro w99 hg99
    have HG99 := Lib.hid hg99
    clear hg99
    go_wp2
    exact HR.out _ ((GX.out.tr G5.out).tr HG99.out)
  · have t2 : decide (c < px) = false := decide_eq_false (by omega)
    have t4 : decide (px < c) = true := decide_eq_true h4
    have t5 : decide (qx < c) = false := decide_eq_false (by omega)
    have t6 : (c != px) = true := by rw [bne_iff_ne]; omega
    clear h1 h2 h3 h4 CA
    have CC := crossCalls (p := ⟨px, py⟩) (q := ⟨qx, qy⟩) (c := c) (up := false) (f := ⟨fq, fr, fd⟩) (e := 0) CRS.out
    have C1 := Lib.hid CC.1
    have C2 := Lib.hid CC.2
    clear CC
    unfold Pt.cells Fr.cells at C1 C2
    dsimp only at C1 C2
    obtain ⟨wa, hwa⟩ : ∃ wa, wa = (w.alloc (.cells #[.int .i64 px, .int .i64 py] 24)).alloc (.cells #[.int .i64 qx, .int .i64 qy] 24) := ⟨_, rfl⟩
    have K0 : Hid (∀ W, Grow wa W → W.heap[w.heap.size]? = some (.cells #[.int .i64 px, .int .i64 py] 24 (0, 0))) := fun W h => by
      subst hwa
      exact blk_al w _ _ (((Grow.refl _).al _).tr h)
    have K1 : Hid (∀ W, Grow wa W → W.heap[w.heap.size + 1]? = some (.cells #[.int .i64 qx, .int .i64 qy] 24 (0, 0))) := fun W h => by
      subst hwa
      have := blk_al _ _ _ h
      rwa [World.size_alloc] at this
    have GX : Hid (Grow w wa) := by subst hwa; exact ((Grow.refl w).al _).al _
    have LW : Hid (w.heap.size + 2 ≤ wa.heap.size) := by subst hwa; rw [World.size_alloc, World.size_alloc]; exact Nat.le_refl _
    go_enter Try.func12, Try.ntmps12
    have z0 := cell_of_row _ w.heap.size 0 _ _ (0, 0) (K0.out _ (Grow.refl _))
    have z1 := cell_of_row _ w.heap.size 1 _ _ (0, 0) (K0.out _ (Grow.refl _))
    have y0 := cell_of_row _ (w.heap.size + 1) 0 _ _ (0, 0) (K1.out _ (Grow.refl _))
    have y1 := cell_of_row _ (w.heap.size + 1) 1 _ _ (0, 0) (K1.out _ (Grow.refl _))
    rw [hwa] at z0 z1 y0 y1
    go_wp2_with fail
    rw [← hwa]
    clear hwa z0 z1 y0 y1
    go_at_call 54
    refine C1.out _ _ ?_
    intro w1 hg1
    have G1 := Lib.hid hg1
    clear hg1
    obtain ⟨wb, hwb⟩ : ∃ wb, wb = w1.alloc (.cells #[.int .i64 fq, .int .u64 fr, .int .u64 fd] 33) := ⟨_, rfl⟩
    have GB : Hid (Grow wa wb) := by rw [hwb]; exact G1.out.al _
    have FB : Hid (∀ W, Grow wb W → W.heap[w1.heap.size]? = some (.cells #[.int .i64 fq, .int .u64 fr, .int .u64 fd] 33 (0, 0))) := fun W h => by
      subst hwb
      exact blk_al w1 _ _ h
    have z0 := cell_of_row _ w.heap.size 0 _ _ (0, 0) (K0.out _ (GB.out))
    have z1 := cell_of_row _ w.heap.size 1 _ _ (0, 0) (K0.out _ (GB.out))
    have y0 := cell_of_row _ (w.heap.size + 1) 0 _ _ (0, 0) (K1.out _ (GB.out))
    have y1 := cell_of_row _ (w.heap.size + 1) 1 _ _ (0, 0) (K1.out _ (GB.out))
    rw [hwb] at z0 z1 y0 y1
    go_wp2_with fail
    rw [← hwb]
    clear hwb z0 z1 y0 y1
    go_at_call 54
    refine C2.out _ _ ?_
    intro w2 hg2
    have G2 := Lib.hid hg2
    clear hg2
    obtain ⟨wc, hwc⟩ : ∃ wc, wc = w2.alloc (.cells #[.int .i64 fq, .int .u64 fr, .int .u64 fd] 33) := ⟨_, rfl⟩
    have GC : Hid (Grow wb wc) := by rw [hwc]; exact G2.out.al _
    have b3 : wc.heap[w2.heap.size]? = some (.cells #[.int .i64 fq, .int .u64 fr, .int .u64 fd] 33 (0, 0)) := by rw [hwc]; exact heap_alloc_new w2 _
    have v0 := cell_of_row _ w1.heap.size 0 _ _ (0, 0) (FB.out _ (GC.out))
    have v1 := cell_of_row _ w1.heap.size 1 _ _ (0, 0) (FB.out _ (GC.out))
    have v2 := cell_of_row _ w1.heap.size 2 _ _ (0, 0) (FB.out _ (GC.out))
    have u0 := cell_of_row _ w2.heap.size 0 _ _ (0, 0) b3
    have u1 := cell_of_row _ w2.heap.size 1 _ _ (0, 0) b3
    have u2 := cell_of_row _ w2.heap.size 2 _ _ (0, 0) b3
    clear b3
    rw [hwc] at v0 v1 v2 u0 u1 u2
    go_wp2_with fail
    rw [← hwc]
    clear hwc v0 v1 v2 u0 u1 u2
    go_at_call 55
    refine code23_any _ _ ?_
    go_wp2_with fail
    go_at_call 55
    refine code23_any _ _ ?_
    have K0 := Lib.hid fun W h => K0.out W (GB.out.tr (GC.out.tr h))
    have K1 := Lib.hid fun W h => K1.out W (GB.out.tr (GC.out.tr h))
    have FB := Lib.hid fun W h => FB.out W (GC.out.tr h)
    have GX := Lib.hid (GX.out.tr (GB.out.tr GC.out))
    have LB := Lib.hid (show w.heap.size + 2 ≤ w1.heap.size by have := LW.out; have := G1.out.size; omega)
    clear G1 G2 GB GC C1 C2 LW
    have z0 := cell_of_row _ w.heap.size 0 _ _ (0, 0) (K0.out _ (Grow.refl wc))
    have z1 := cell_of_row _ w.heap.size 1 _ _ (0, 0) (K0.out _ (Grow.refl wc))
    have y0 := cell_of_row _ (w.heap.size + 1) 0 _ _ (0, 0) (K1.out _ (Grow.refl wc))
    have y1 := cell_of_row _ (w.heap.size + 1) 1 _ _ (0, 0) (K1.out _ (Grow.refl wc))
    go_wp2_with fail
    go_at_call 56
    refine O1.out _ _ ?_
    go_wp2_with fail
    go_at_call 56
    refine O2.out _ _ ?_
    go_wp2_with fail
    go_at_call 56
    refine O3.out _ _ ?_
    go_wp2_with fail
    go_at_call 56
    refine O4.out _ _ ?_
    go_wp2_with fail
    go_at_call 56
    refine O5.out _ _ ?_
    clear O1 O2 O3 O4 O5 CRS
    skip
    go_wp2_with fail
    clear z0 z1 y0 y1 t1 t2 t4 t5
    refine wp_region_lexT (Grow wc) ((Grow.refl wc).dr) 21 [0, 1, 2, 3, 4, 5, 6, 7, 8, 9, 10, 11, 12, 13, 14, 15, 16, 17, 18, 19, 20] (by kernel_rfl) (by kernel_rfl) (by intro c a d v w h; cases d <;> exact h) ?_
    iterate 1 (apply lext_take; exact rfl; exact rfl; (intro W hW; (try clear hW); go_simp; with_reducible rfl); try simp only [Act.put, List.setIfInBounds_toArray, List.set_cons_zero, List.set_cons_succ])
    apply lext_turn; exact rfl; exact rfl; exact rfl; intro K hK; go_simp; go_at_call 55; refine code23_any _ _ ?_; refine hK.out _ _ (Grow.refl wc).dr ?_; clear hK
    try simp only [Act.put, List.setIfInBounds_toArray, List.set_cons_zero, List.set_cons_succ]
    iterate 2 (apply lext_take; exact rfl; exact rfl; (intro W hW; (try clear hW); go_simp; with_reducible rfl); try simp only [Act.put, List.setIfInBounds_toArray, List.set_cons_zero, List.set_cons_succ])
    apply lext_take; exact rfl; exact rfl
    · intro W hW
      have v0 := cell_of_row _ w1.heap.size 0 _ _ (0, 0) (FB.out _ hW)
      have v1 := cell_of_row _ w1.heap.size 1 _ _ (0, 0) (FB.out _ hW)
      have v2 := cell_of_row _ w1.heap.size 2 _ _ (0, 0) (FB.out _ hW)
      clear hW
      go_simp
      with_reducible rfl
    try simp only [Act.put, List.setIfInBounds_toArray, List.set_cons_zero, List.set_cons_succ]
    iterate 2 (apply lext_take; exact rfl; exact rfl; (intro W hW; have z0 := cell_of_row _ w.heap.size 0 _ _ (0, 0) (K0.out _ hW); have z1 := cell_of_row _ w.heap.size 1 _ _ (0, 0) (K0.out _ hW); have y0 := cell_of_row _ (w.heap.size + 1) 0 _ _ (0, 0) (K1.out _ hW); have y1 := cell_of_row _ (w.heap.size + 1) 1 _ _ (0, 0) (K1.out _ hW); (try clear hW); go_simp; with_reducible rfl); try simp only [Act.put, List.setIfInBounds_toArray, List.set_cons_zero, List.set_cons_succ])
    iterate 1 (apply lext_take; exact rfl; exact rfl; (intro W hW; (try clear hW); go_simp; with_reducible rfl); try simp only [Act.put, List.setIfInBounds_toArray, List.set_cons_zero, List.set_cons_succ])
    apply lext_turn; exact rfl; exact rfl; exact rfl; intro K hK; go_simp; go_at_call 59; refine AT.out _ _ ?_; intro va w3 hg3 hva
    have G3 := Lib.hid ((Grow.refl wc).dr.tr hg3)
    have VA := Lib.hid hva
    refine hK.out _ _ G3.out ?_
    clear hK hg3 hva
    try simp only [Act.put, List.setIfInBounds_toArray, List.set_cons_zero, List.set_cons_succ]
    apply lext_turn; exact rfl; exact rfl; exact rfl; intro K hK; go_simp; go_at_call 58; refine IS.out _ _ _ VA.out _ ?_; intro w4 hg4
    have G4 := Lib.hid (G3.out.tr hg4)
    refine hK.out _ _ G4.out ?_
    clear hK hg4 G3 VA
    try simp only [Act.put, List.setIfInBounds_toArray, List.set_cons_zero, List.set_cons_succ]
    iterate 7 (apply lext_take; exact rfl; exact rfl; (intro W hW; have z0 := cell_of_row _ w.heap.size 0 _ _ (0, 0) (K0.out _ hW); have z1 := cell_of_row _ w.heap.size 1 _ _ (0, 0) (K0.out _ hW); (try clear hW); go_simp; with_reducible rfl); try simp only [Act.put, List.setIfInBounds_toArray, List.set_cons_zero, List.set_cons_succ])
    iterate 4 (apply lext_skip; exact rfl; exact rfl; try simp only [Act.put, List.setIfInBounds_toArray, List.set_cons_zero, List.set_cons_succ])
    refine lext_nil ?_
    simp only [List.drop_succ_cons, List.drop_zero]
    go_wp2_with fail
    go_at_call 57
    refine live23_any _ ?_
    intro w99 hg99
    have HG99 := Lib.hid hg99
    clear hg99
    go_wp2
    exact HR.out _ ((GX.out.tr G4.out).tr HG99.out)

set_option maxRecDepth 100000 in
set_option maxHeartbeats 32000000 in
theorem fcrossIsUp (px py qx qy c : Int) (w : World) (hp : Pt.far ⟨px, py⟩ = false) (hq : Pt.far ⟨qx, qy⟩ = false) (hc : (!inw c) = false) (hn : noneB ⟨py, px⟩ ⟨qy, qx⟩ c = false) {R : Ending → World → Prop} (hR : ∀ w', Grow w w' → R (.returned (.bool true)) w') :
    Calls Try.prog 12 #[.agg #[.int .i64 px, .int .i64 py], .agg #[.int .i64 qx, .int .i64 qy], .int .i64 c, .bool true] w R := by
  have HR := Lib.hid hR
  clear hR
  have O1 := Lib.hid fun W (R : Ending → World → Prop) hR => out23_any px W (R := R) hR
  have O2 := Lib.hid fun W (R : Ending → World → Prop) hR => out23_any py W (R := R) hR
  have O3 := Lib.hid fun W (R : Ending → World → Prop) hR => out23_any qx W (R := R) hR
  have O4 := Lib.hid fun W (R : Ending → World → Prop) hR => out23_any qy W (R := R) hR
  have O5 := Lib.hid fun W (R : Ending → World → Prop) hR => out23_any c W (R := R) hR
  have hs : (Pt.far ⟨px, py⟩ || Pt.far ⟨qx, qy⟩ || !inw c) = false := by rw [hp, hq, hc]; rfl
  have hx := hs
  unfold Pt.far at hx
  simp only [Bool.or_eq_false_iff] at hx
  obtain ⟨⟨⟨x1, x2⟩, x3, x4⟩, x5⟩ := hx
  rw [x1] at O1
  rw [x2] at O2
  rw [x3] at O3
  rw [x4] at O4
  rw [x5] at O5
  clear x1 x2 x3 x4 x5
  have OF := Lib.hid fun W (R : Ending → World → Prop) hR => of23_any px W (R := R) hR
  obtain ⟨h1, h2, h3⟩ := noneB_false hn
  dsimp only at h1 h2 h3
  have t1 : (py == qy) = false := by rw [beq_eq_false_iff_ne]; exact h1
  obtain ⟨f, hf⟩ : ∃ f, crossF ⟨py, px⟩ ⟨qy, qx⟩ c = f := ⟨_, rfl⟩
  have CRS : Hid (crossS ⟨px, py⟩ ⟨qx, qy⟩ c true = (f, 0)) := by
    show _ = _
    unfold crossS
    rw [hs]
    show crossC ⟨py, px⟩ ⟨qy, qx⟩ c = _
    unfold crossC
    rw [hn, hf]
    rfl
  have CH := crossHave (p := ⟨py, px⟩) (q := ⟨qy, qx⟩) ((Pt.swap_far ⟨px, py⟩).trans hp) ((Pt.swap_far ⟨qx, qy⟩).trans hq) hc hn hf
  have AT := Lib.hid CH.1
  have IS := Lib.hid CH.2
  have CA := cross_at (p := ⟨py, px⟩) (q := ⟨qy, qx⟩) (c := c) hn
  rw [hf] at CA
  obtain ⟨fq, fr, fd⟩ := f
  clear CH hf hn hs hp hq hc
  simp only [Pt.cells, Fr.cells] at AT IS
  try dsimp only at CA
  rcases Int.lt_trichotomy c py with h4 | h4 | h4
  · have t2 : decide (c < py) = true := decide_eq_true h4
    have t3 : decide (c < qy) = false := decide_eq_false (by omega)
    have t4 : decide (py < c) = false := decide_eq_false (by omega)
    have t6 : (c != py) = true := by rw [bne_iff_ne]; omega
    clear h1 h2 h3 h4 CA
    have CC := crossCalls (p := ⟨px, py⟩) (q := ⟨qx, qy⟩) (c := c) (up := true) (f := ⟨fq, fr, fd⟩) (e := 0) CRS.out
    have C1 := Lib.hid CC.1
    have C2 := Lib.hid CC.2
    clear CC
    unfold Pt.cells Fr.cells at C1 C2
    dsimp only at C1 C2
    obtain ⟨wa, hwa⟩ : ∃ wa, wa = (w.alloc (.cells #[.int .i64 px, .int .i64 py] 24)).alloc (.cells #[.int .i64 qx, .int .i64 qy] 24) := ⟨_, rfl⟩
    have K0 : Hid (∀ W, Grow wa W → W.heap[w.heap.size]? = some (.cells #[.int .i64 px, .int .i64 py] 24 (0, 0))) := fun W h => by
      subst hwa
      exact blk_al w _ _ (((Grow.refl _).al _).tr h)
    have K1 : Hid (∀ W, Grow wa W → W.heap[w.heap.size + 1]? = some (.cells #[.int .i64 qx, .int .i64 qy] 24 (0, 0))) := fun W h => by
      subst hwa
      have := blk_al _ _ _ h
      rwa [World.size_alloc] at this
    have GX : Hid (Grow w wa) := by subst hwa; exact ((Grow.refl w).al _).al _
    have LW : Hid (w.heap.size + 2 ≤ wa.heap.size) := by subst hwa; rw [World.size_alloc, World.size_alloc]; exact Nat.le_refl _
    go_enter Try.func12, Try.ntmps12
    have z0 := cell_of_row _ w.heap.size 0 _ _ (0, 0) (K0.out _ (Grow.refl _))
    have z1 := cell_of_row _ w.heap.size 1 _ _ (0, 0) (K0.out _ (Grow.refl _))
    have y0 := cell_of_row _ (w.heap.size + 1) 0 _ _ (0, 0) (K1.out _ (Grow.refl _))
    have y1 := cell_of_row _ (w.heap.size + 1) 1 _ _ (0, 0) (K1.out _ (Grow.refl _))
    rw [hwa] at z0 z1 y0 y1
    go_wp2_with fail
    rw [← hwa]
    clear hwa z0 z1 y0 y1
    go_at_call 54
    refine C1.out _ _ ?_
    intro w1 hg1
    have G1 := Lib.hid hg1
    clear hg1
    obtain ⟨wb, hwb⟩ : ∃ wb, wb = w1.alloc (.cells #[.int .i64 fq, .int .u64 fr, .int .u64 fd] 33) := ⟨_, rfl⟩
    have GB : Hid (Grow wa wb) := by rw [hwb]; exact G1.out.al _
    have FB : Hid (∀ W, Grow wb W → W.heap[w1.heap.size]? = some (.cells #[.int .i64 fq, .int .u64 fr, .int .u64 fd] 33 (0, 0))) := fun W h => by
      subst hwb
      exact blk_al w1 _ _ h
    have z0 := cell_of_row _ w.heap.size 0 _ _ (0, 0) (K0.out _ (GB.out))
    have z1 := cell_of_row _ w.heap.size 1 _ _ (0, 0) (K0.out _ (GB.out))
    have y0 := cell_of_row _ (w.heap.size + 1) 0 _ _ (0, 0) (K1.out _ (GB.out))
    have y1 := cell_of_row _ (w.heap.size + 1) 1 _ _ (0, 0) (K1.out _ (GB.out))
    rw [hwb] at z0 z1 y0 y1
    go_wp2_with fail
    rw [← hwb]
    clear hwb z0 z1 y0 y1
    go_at_call 54
    refine C2.out _ _ ?_
    intro w2 hg2
    have G2 := Lib.hid hg2
    clear hg2
    obtain ⟨wc, hwc⟩ : ∃ wc, wc = w2.alloc (.cells #[.int .i64 fq, .int .u64 fr, .int .u64 fd] 33) := ⟨_, rfl⟩
    have GC : Hid (Grow wb wc) := by rw [hwc]; exact G2.out.al _
    have b3 : wc.heap[w2.heap.size]? = some (.cells #[.int .i64 fq, .int .u64 fr, .int .u64 fd] 33 (0, 0)) := by rw [hwc]; exact heap_alloc_new w2 _
    have v0 := cell_of_row _ w1.heap.size 0 _ _ (0, 0) (FB.out _ (GC.out))
    have v1 := cell_of_row _ w1.heap.size 1 _ _ (0, 0) (FB.out _ (GC.out))
    have v2 := cell_of_row _ w1.heap.size 2 _ _ (0, 0) (FB.out _ (GC.out))
    have u0 := cell_of_row _ w2.heap.size 0 _ _ (0, 0) b3
    have u1 := cell_of_row _ w2.heap.size 1 _ _ (0, 0) b3
    have u2 := cell_of_row _ w2.heap.size 2 _ _ (0, 0) b3
    clear b3
    rw [hwc] at v0 v1 v2 u0 u1 u2
    go_wp2_with fail
    rw [← hwc]
    clear hwc v0 v1 v2 u0 u1 u2
    go_at_call 55
    refine code23_any _ _ ?_
    go_wp2_with fail
    go_at_call 55
    refine code23_any _ _ ?_
    have K0 := Lib.hid fun W h => K0.out W (GB.out.tr (GC.out.tr h))
    have K1 := Lib.hid fun W h => K1.out W (GB.out.tr (GC.out.tr h))
    have FB := Lib.hid fun W h => FB.out W (GC.out.tr h)
    have GX := Lib.hid (GX.out.tr (GB.out.tr GC.out))
    have LB := Lib.hid (show w.heap.size + 2 ≤ w1.heap.size by have := LW.out; have := G1.out.size; omega)
    clear G1 G2 GB GC C1 C2 LW
    have z0 := cell_of_row _ w.heap.size 0 _ _ (0, 0) (K0.out _ (Grow.refl wc))
    have z1 := cell_of_row _ w.heap.size 1 _ _ (0, 0) (K0.out _ (Grow.refl wc))
    have y0 := cell_of_row _ (w.heap.size + 1) 0 _ _ (0, 0) (K1.out _ (Grow.refl wc))
    have y1 := cell_of_row _ (w.heap.size + 1) 1 _ _ (0, 0) (K1.out _ (Grow.refl wc))
    go_wp2_with fail
    go_at_call 56
    refine O1.out _ _ ?_
    go_wp2_with fail
    go_at_call 56
    refine O2.out _ _ ?_
    go_wp2_with fail
    go_at_call 56
    refine O3.out _ _ ?_
    go_wp2_with fail
    go_at_call 56
    refine O4.out _ _ ?_
    go_wp2_with fail
    go_at_call 56
    refine O5.out _ _ ?_
    clear O1 O2 O3 O4 O5 CRS
    have kp := K0.out _ (Grow.refl wc)
    have kq := K1.out _ (Grow.refl wc)
    have zf0 := frozen_of_row _ w.heap.size 0 _ _ kp
    have zf1 := frozen_of_row _ w.heap.size 1 _ _ kp
    have yf0 := frozen_of_row _ (w.heap.size + 1) 0 _ _ kq
    have yf1 := frozen_of_row _ (w.heap.size + 1) 1 _ _ kq
    clear kp kq
    go_wp2_with fail
    go_region
    obtain ⟨wd, hwd⟩ : ∃ wd, wd = (st2 (st2 wc w.heap.size (.int .i64 py) (.int .i64 px)) (w.heap.size + 1) (.int .i64 qy) (.int .i64 qx)).drew := ⟨_, rfl⟩
    have K0 : Hid (∀ W, Grow wd W → W.heap[w.heap.size]? = some (.cells #[.int .i64 py, .int .i64 px] 24 (0, 0))) := fun W h => by
      subst hwd
      exact grow_blk h ((st2_other (by omega) _ _).trans (st2_same (K0.out _ (Grow.refl _)) _ _))
    have K1 : Hid (∀ W, Grow wd W → W.heap[w.heap.size + 1]? = some (.cells #[.int .i64 qy, .int .i64 qx] 24 (0, 0))) := fun W h => by
      subst hwd
      exact grow_blk h (st2_same ((st2_other (by omega) _ _).trans (K1.out _ (Grow.refl _))) _ _)
    have FB : Hid (∀ W, Grow wd W → W.heap[w1.heap.size]? = some (.cells #[.int .i64 fq, .int .u64 fr, .int .u64 fd] 33 (0, 0))) := fun W h => by
      subst hwd
      have lb := LB.out
      exact grow_blk h ((st2_other (by omega) _ _).trans ((st2_other (by omega) _ _).trans (FB.out _ (Grow.refl _))))
    have GX : Hid (Grow w wd) := by
      subst hwd
      exact ((GX.out.st2 (by omega) _ _).st2 (by omega) _ _).dr
    simp only [st2] at hwd
    rw [← hwd]
    clear hwd z0 z1 y0 y1 zf0 zf1 yf0 yf1
    have z0 := cell_of_row _ w.heap.size 0 _ _ (0, 0) (K0.out _ (Grow.refl wd))
    have z1 := cell_of_row _ w.heap.size 1 _ _ (0, 0) (K0.out _ (Grow.refl wd))
    have y0 := cell_of_row _ (w.heap.size + 1) 0 _ _ (0, 0) (K1.out _ (Grow.refl wd))
    have y1 := cell_of_row _ (w.heap.size + 1) 1 _ _ (0, 0) (K1.out _ (Grow.refl wd))
    go_wp2_with fail
    clear z0 z1 y0 y1 t1 t2 t3 t4
    refine wp_region_lexT (Grow wd) ((Grow.refl wd).dr) 21 [0, 1, 2, 3, 4, 5, 6, 7, 8, 9, 10, 11, 12, 13, 14, 15, 16, 17, 18, 19, 20] (by kernel_rfl) (by kernel_rfl) (by intro c a d v w h; cases d <;> exact h) ?_
    iterate 1 (apply lext_take; exact rfl; exact rfl; (intro W hW; (try clear hW); go_simp; with_reducible rfl); try simp only [Act.put, List.setIfInBounds_toArray, List.set_cons_zero, List.set_cons_succ])
    apply lext_turn; exact rfl; exact rfl; exact rfl; intro K hK; go_simp; go_at_call 55; refine code23_any _ _ ?_; refine hK.out _ _ (Grow.refl wd).dr ?_; clear hK
    try simp only [Act.put, List.setIfInBounds_toArray, List.set_cons_zero, List.set_cons_succ]
    iterate 2 (apply lext_take; exact rfl; exact rfl; (intro W hW; (try clear hW); go_simp; with_reducible rfl); try simp only [Act.put, List.setIfInBounds_toArray, List.set_cons_zero, List.set_cons_succ])
    apply lext_take; exact rfl; exact rfl
    · intro W hW
      have v0 := cell_of_row _ w1.heap.size 0 _ _ (0, 0) (FB.out _ hW)
      have v1 := cell_of_row _ w1.heap.size 1 _ _ (0, 0) (FB.out _ hW)
      have v2 := cell_of_row _ w1.heap.size 2 _ _ (0, 0) (FB.out _ hW)
      clear hW
      go_simp
      with_reducible rfl
    try simp only [Act.put, List.setIfInBounds_toArray, List.set_cons_zero, List.set_cons_succ]
    iterate 2 (apply lext_take; exact rfl; exact rfl; (intro W hW; have z0 := cell_of_row _ w.heap.size 0 _ _ (0, 0) (K0.out _ hW); have z1 := cell_of_row _ w.heap.size 1 _ _ (0, 0) (K0.out _ hW); have y0 := cell_of_row _ (w.heap.size + 1) 0 _ _ (0, 0) (K1.out _ hW); have y1 := cell_of_row _ (w.heap.size + 1) 1 _ _ (0, 0) (K1.out _ hW); (try clear hW); go_simp; with_reducible rfl); try simp only [Act.put, List.setIfInBounds_toArray, List.set_cons_zero, List.set_cons_succ])
    iterate 1 (apply lext_take; exact rfl; exact rfl; (intro W hW; (try clear hW); go_simp; with_reducible rfl); try simp only [Act.put, List.setIfInBounds_toArray, List.set_cons_zero, List.set_cons_succ])
    apply lext_turn; exact rfl; exact rfl; exact rfl; intro K hK; go_simp; go_at_call 59; refine AT.out _ _ ?_; intro va w3 hg3 hva
    have G3 := Lib.hid ((Grow.refl wd).dr.tr hg3)
    have VA := Lib.hid hva
    refine hK.out _ _ G3.out ?_
    clear hK hg3 hva
    try simp only [Act.put, List.setIfInBounds_toArray, List.set_cons_zero, List.set_cons_succ]
    apply lext_turn; exact rfl; exact rfl; exact rfl; intro K hK; go_simp; go_at_call 58; refine IS.out _ _ _ VA.out _ ?_; intro w4 hg4
    have G4 := Lib.hid (G3.out.tr hg4)
    refine hK.out _ _ G4.out ?_
    clear hK hg4 G3 VA
    try simp only [Act.put, List.setIfInBounds_toArray, List.set_cons_zero, List.set_cons_succ]
    iterate 7 (apply lext_take; exact rfl; exact rfl; (intro W hW; have z0 := cell_of_row _ w.heap.size 0 _ _ (0, 0) (K0.out _ hW); have z1 := cell_of_row _ w.heap.size 1 _ _ (0, 0) (K0.out _ hW); (try clear hW); go_simp; with_reducible rfl); try simp only [Act.put, List.setIfInBounds_toArray, List.set_cons_zero, List.set_cons_succ])
    iterate 4 (apply lext_skip; exact rfl; exact rfl; try simp only [Act.put, List.setIfInBounds_toArray, List.set_cons_zero, List.set_cons_succ])
    refine lext_nil ?_
    simp only [List.drop_succ_cons, List.drop_zero]
    go_wp2_with fail
    go_at_call 57
    refine live23_any _ ?_
    intro w99 hg99
    have HG99 := Lib.hid hg99
    clear hg99
    go_wp2
    exact HR.out _ ((GX.out.tr G4.out).tr HG99.out)
  · have CA := CA h4
    simp only [Fr.mk.injEq] at CA
    obtain ⟨e1, rfl, rfl⟩ := CA
    have e1 := e1.symm
    subst e1
    have t2 : decide (c < py) = false := decide_eq_false (by omega)
    have t4 : decide (py < c) = false := decide_eq_false (by omega)
    have t6 : (c != py) = false := by rw [bne_eq_false_iff_eq]; exact h4
    clear h1 h2 h3 h4
    have CC := crossCalls (p := ⟨px, py⟩) (q := ⟨qx, qy⟩) (c := c) (up := true) (f := ⟨px, 0, 1⟩) (e := 0) CRS.out
    have C1 := Lib.hid CC.1
    have C2 := Lib.hid CC.2
    clear CC
    unfold Pt.cells Fr.cells at C1 C2
    dsimp only at C1 C2
    obtain ⟨wa, hwa⟩ : ∃ wa, wa = (w.alloc (.cells #[.int .i64 px, .int .i64 py] 24)).alloc (.cells #[.int .i64 qx, .int .i64 qy] 24) := ⟨_, rfl⟩
    have K0 : Hid (∀ W, Grow wa W → W.heap[w.heap.size]? = some (.cells #[.int .i64 px, .int .i64 py] 24 (0, 0))) := fun W h => by
      subst hwa
      exact blk_al w _ _ (((Grow.refl _).al _).tr h)
    have K1 : Hid (∀ W, Grow wa W → W.heap[w.heap.size + 1]? = some (.cells #[.int .i64 qx, .int .i64 qy] 24 (0, 0))) := fun W h => by
      subst hwa
      have := blk_al _ _ _ h
      rwa [World.size_alloc] at this
    have GX : Hid (Grow w wa) := by subst hwa; exact ((Grow.refl w).al _).al _
    have LW : Hid (w.heap.size + 2 ≤ wa.heap.size) := by subst hwa; rw [World.size_alloc, World.size_alloc]; exact Nat.le_refl _
    go_enter Try.func12, Try.ntmps12
    have z0 := cell_of_row _ w.heap.size 0 _ _ (0, 0) (K0.out _ (Grow.refl _))
    have z1 := cell_of_row _ w.heap.size 1 _ _ (0, 0) (K0.out _ (Grow.refl _))
    have y0 := cell_of_row _ (w.heap.size + 1) 0 _ _ (0, 0) (K1.out _ (Grow.refl _))
    have y1 := cell_of_row _ (w.heap.size + 1) 1 _ _ (0, 0) (K1.out _ (Grow.refl _))
    rw [hwa] at z0 z1 y0 y1
    go_wp2_with fail
    rw [← hwa]
    clear hwa z0 z1 y0 y1
    go_at_call 54
    refine C1.out _ _ ?_
    intro w1 hg1
    have G1 := Lib.hid hg1
    clear hg1
    obtain ⟨wb, hwb⟩ : ∃ wb, wb = w1.alloc (.cells #[.int .i64 px, .int .u64 0, .int .u64 1] 33) := ⟨_, rfl⟩
    have GB : Hid (Grow wa wb) := by rw [hwb]; exact G1.out.al _
    have FB : Hid (∀ W, Grow wb W → W.heap[w1.heap.size]? = some (.cells #[.int .i64 px, .int .u64 0, .int .u64 1] 33 (0, 0))) := fun W h => by
      subst hwb
      exact blk_al w1 _ _ h
    have z0 := cell_of_row _ w.heap.size 0 _ _ (0, 0) (K0.out _ (GB.out))
    have z1 := cell_of_row _ w.heap.size 1 _ _ (0, 0) (K0.out _ (GB.out))
    have y0 := cell_of_row _ (w.heap.size + 1) 0 _ _ (0, 0) (K1.out _ (GB.out))
    have y1 := cell_of_row _ (w.heap.size + 1) 1 _ _ (0, 0) (K1.out _ (GB.out))
    rw [hwb] at z0 z1 y0 y1
    go_wp2_with fail
    rw [← hwb]
    clear hwb z0 z1 y0 y1
    go_at_call 54
    refine C2.out _ _ ?_
    intro w2 hg2
    have G2 := Lib.hid hg2
    clear hg2
    obtain ⟨wc, hwc⟩ : ∃ wc, wc = w2.alloc (.cells #[.int .i64 px, .int .u64 0, .int .u64 1] 33) := ⟨_, rfl⟩
    have GC : Hid (Grow wb wc) := by rw [hwc]; exact G2.out.al _
    have b3 : wc.heap[w2.heap.size]? = some (.cells #[.int .i64 px, .int .u64 0, .int .u64 1] 33 (0, 0)) := by rw [hwc]; exact heap_alloc_new w2 _
    have v0 := cell_of_row _ w1.heap.size 0 _ _ (0, 0) (FB.out _ (GC.out))
    have v1 := cell_of_row _ w1.heap.size 1 _ _ (0, 0) (FB.out _ (GC.out))
    have v2 := cell_of_row _ w1.heap.size 2 _ _ (0, 0) (FB.out _ (GC.out))
    have u0 := cell_of_row _ w2.heap.size 0 _ _ (0, 0) b3
    have u1 := cell_of_row _ w2.heap.size 1 _ _ (0, 0) b3
    have u2 := cell_of_row _ w2.heap.size 2 _ _ (0, 0) b3
    clear b3
    rw [hwc] at v0 v1 v2 u0 u1 u2
    go_wp2_with fail
    rw [← hwc]
    clear hwc v0 v1 v2 u0 u1 u2
    go_at_call 55
    refine code23_any _ _ ?_
    go_wp2_with fail
    go_at_call 55
    refine code23_any _ _ ?_
    have K0 := Lib.hid fun W h => K0.out W (GB.out.tr (GC.out.tr h))
    have K1 := Lib.hid fun W h => K1.out W (GB.out.tr (GC.out.tr h))
    have FB := Lib.hid fun W h => FB.out W (GC.out.tr h)
    have GX := Lib.hid (GX.out.tr (GB.out.tr GC.out))
    have LB := Lib.hid (show w.heap.size + 2 ≤ w1.heap.size by have := LW.out; have := G1.out.size; omega)
    clear G1 G2 GB GC C1 C2 LW
    have z0 := cell_of_row _ w.heap.size 0 _ _ (0, 0) (K0.out _ (Grow.refl wc))
    have z1 := cell_of_row _ w.heap.size 1 _ _ (0, 0) (K0.out _ (Grow.refl wc))
    have y0 := cell_of_row _ (w.heap.size + 1) 0 _ _ (0, 0) (K1.out _ (Grow.refl wc))
    have y1 := cell_of_row _ (w.heap.size + 1) 1 _ _ (0, 0) (K1.out _ (Grow.refl wc))
    go_wp2_with fail
    go_at_call 56
    refine O1.out _ _ ?_
    go_wp2_with fail
    go_at_call 56
    refine O2.out _ _ ?_
    go_wp2_with fail
    go_at_call 56
    refine O3.out _ _ ?_
    go_wp2_with fail
    go_at_call 56
    refine O4.out _ _ ?_
    go_wp2_with fail
    go_at_call 56
    refine O5.out _ _ ?_
    clear O1 O2 O3 O4 O5 CRS
    have kp := K0.out _ (Grow.refl wc)
    have kq := K1.out _ (Grow.refl wc)
    have zf0 := frozen_of_row _ w.heap.size 0 _ _ kp
    have zf1 := frozen_of_row _ w.heap.size 1 _ _ kp
    have yf0 := frozen_of_row _ (w.heap.size + 1) 0 _ _ kq
    have yf1 := frozen_of_row _ (w.heap.size + 1) 1 _ _ kq
    clear kp kq
    go_wp2_with fail
    go_region
    obtain ⟨wd, hwd⟩ : ∃ wd, wd = (st2 (st2 wc w.heap.size (.int .i64 py) (.int .i64 px)) (w.heap.size + 1) (.int .i64 qy) (.int .i64 qx)).drew := ⟨_, rfl⟩
    have K0 : Hid (∀ W, Grow wd W → W.heap[w.heap.size]? = some (.cells #[.int .i64 py, .int .i64 px] 24 (0, 0))) := fun W h => by
      subst hwd
      exact grow_blk h ((st2_other (by omega) _ _).trans (st2_same (K0.out _ (Grow.refl _)) _ _))
    have K1 : Hid (∀ W, Grow wd W → W.heap[w.heap.size + 1]? = some (.cells #[.int .i64 qy, .int .i64 qx] 24 (0, 0))) := fun W h => by
      subst hwd
      exact grow_blk h (st2_same ((st2_other (by omega) _ _).trans (K1.out _ (Grow.refl _))) _ _)
    have FB : Hid (∀ W, Grow wd W → W.heap[w1.heap.size]? = some (.cells #[.int .i64 px, .int .u64 0, .int .u64 1] 33 (0, 0))) := fun W h => by
      subst hwd
      have lb := LB.out
      exact grow_blk h ((st2_other (by omega) _ _).trans ((st2_other (by omega) _ _).trans (FB.out _ (Grow.refl _))))
    have GX : Hid (Grow w wd) := by
      subst hwd
      exact ((GX.out.st2 (by omega) _ _).st2 (by omega) _ _).dr
    simp only [st2] at hwd
    rw [← hwd]
    clear hwd z0 z1 y0 y1 zf0 zf1 yf0 yf1
    have z0 := cell_of_row _ w.heap.size 0 _ _ (0, 0) (K0.out _ (Grow.refl wd))
    have z1 := cell_of_row _ w.heap.size 1 _ _ (0, 0) (K0.out _ (Grow.refl wd))
    have y0 := cell_of_row _ (w.heap.size + 1) 0 _ _ (0, 0) (K1.out _ (Grow.refl wd))
    have y1 := cell_of_row _ (w.heap.size + 1) 1 _ _ (0, 0) (K1.out _ (Grow.refl wd))
    go_wp2_with fail
    clear z0 z1 y0 y1 t1 t2 t4
    refine wp_region_lexT (Grow wd) ((Grow.refl wd).dr) 21 [0, 1, 2, 3, 4, 5, 6, 7, 8, 9, 10, 11, 12, 13, 14, 15, 16, 17, 18, 19, 20] (by kernel_rfl) (by kernel_rfl) (by intro c a d v w h; cases d <;> exact h) ?_
    iterate 1 (apply lext_take; exact rfl; exact rfl; (intro W hW; (try clear hW); go_simp; with_reducible rfl); try simp only [Act.put, List.setIfInBounds_toArray, List.set_cons_zero, List.set_cons_succ])
    apply lext_turn; exact rfl; exact rfl; exact rfl; intro K hK; go_simp; go_at_call 55; refine code23_any _ _ ?_; refine hK.out _ _ (Grow.refl wd).dr ?_; clear hK
    try simp only [Act.put, List.setIfInBounds_toArray, List.set_cons_zero, List.set_cons_succ]
    iterate 2 (apply lext_take; exact rfl; exact rfl; (intro W hW; (try clear hW); go_simp; with_reducible rfl); try simp only [Act.put, List.setIfInBounds_toArray, List.set_cons_zero, List.set_cons_succ])
    apply lext_take; exact rfl; exact rfl
    · intro W hW
      have v0 := cell_of_row _ w1.heap.size 0 _ _ (0, 0) (FB.out _ hW)
      have v1 := cell_of_row _ w1.heap.size 1 _ _ (0, 0) (FB.out _ hW)
      have v2 := cell_of_row _ w1.heap.size 2 _ _ (0, 0) (FB.out _ hW)
      clear hW
      go_simp
      with_reducible rfl
    try simp only [Act.put, List.setIfInBounds_toArray, List.set_cons_zero, List.set_cons_succ]
    iterate 2 (apply lext_take; exact rfl; exact rfl; (intro W hW; have z0 := cell_of_row _ w.heap.size 0 _ _ (0, 0) (K0.out _ hW); have z1 := cell_of_row _ w.heap.size 1 _ _ (0, 0) (K0.out _ hW); have y0 := cell_of_row _ (w.heap.size + 1) 0 _ _ (0, 0) (K1.out _ hW); have y1 := cell_of_row _ (w.heap.size + 1) 1 _ _ (0, 0) (K1.out _ hW); (try clear hW); go_simp; with_reducible rfl); try simp only [Act.put, List.setIfInBounds_toArray, List.set_cons_zero, List.set_cons_succ])
    iterate 1 (apply lext_take; exact rfl; exact rfl; (intro W hW; (try clear hW); go_simp; with_reducible rfl); try simp only [Act.put, List.setIfInBounds_toArray, List.set_cons_zero, List.set_cons_succ])
    apply lext_turn; exact rfl; exact rfl; exact rfl; intro K hK; go_simp; go_at_call 59; refine AT.out _ _ ?_; intro va w3 hg3 hva
    have G3 := Lib.hid ((Grow.refl wd).dr.tr hg3)
    have VA := Lib.hid hva
    refine hK.out _ _ G3.out ?_
    clear hK hg3 hva
    try simp only [Act.put, List.setIfInBounds_toArray, List.set_cons_zero, List.set_cons_succ]
    apply lext_turn; exact rfl; exact rfl; exact rfl; intro K hK; go_simp; go_at_call 58; refine IS.out _ _ _ VA.out _ ?_; intro w4 hg4
    have G4 := Lib.hid (G3.out.tr hg4)
    refine hK.out _ _ G4.out ?_
    clear hK hg4 G3 VA
    try simp only [Act.put, List.setIfInBounds_toArray, List.set_cons_zero, List.set_cons_succ]
    iterate 7 (apply lext_take; exact rfl; exact rfl; (intro W hW; have z0 := cell_of_row _ w.heap.size 0 _ _ (0, 0) (K0.out _ hW); have z1 := cell_of_row _ w.heap.size 1 _ _ (0, 0) (K0.out _ hW); (try clear hW); go_simp; with_reducible rfl); try simp only [Act.put, List.setIfInBounds_toArray, List.set_cons_zero, List.set_cons_succ])
    apply lext_take; exact rfl; exact rfl
    · intro W hW
      have v0 := cell_of_row _ w1.heap.size 0 _ _ (0, 0) (FB.out _ hW)
      have v1 := cell_of_row _ w1.heap.size 1 _ _ (0, 0) (FB.out _ hW)
      have v2 := cell_of_row _ w1.heap.size 2 _ _ (0, 0) (FB.out _ hW)
      clear hW
      go_simp
      with_reducible rfl
    try simp only [Act.put, List.setIfInBounds_toArray, List.set_cons_zero, List.set_cons_succ]
    iterate 2 (apply lext_take; exact rfl; exact rfl; (intro W hW; have z0 := cell_of_row _ w.heap.size 0 _ _ (0, 0) (K0.out _ hW); have z1 := cell_of_row _ w.heap.size 1 _ _ (0, 0) (K0.out _ hW); (try clear hW); go_simp; with_reducible rfl); try simp only [Act.put, List.setIfInBounds_toArray, List.set_cons_zero, List.set_cons_succ])
    apply lext_turn; exact rfl; exact rfl; exact rfl; intro K hK; go_simp; go_at_call 60; refine OF.out _ _ ?_; intro w5 hg5
    have G5 := Lib.hid (G4.out.tr hg5)
    refine hK.out _ _ G5.out ?_
    clear hK hg5
    try simp only [Act.put, List.setIfInBounds_toArray, List.set_cons_zero, List.set_cons_succ]
    refine lext_nil ?_
    simp only [List.drop_succ_cons, List.drop_zero]
    go_wp2_with fail
    go_at_call 57
    refine live23_any _ ?_
    intro w99 hg99
    have HG99 := Lib.hid hg99
    clear hg99
    go_wp2
    exact HR.out _ ((GX.out.tr G5.out).tr HG99.out)
  · have t2 : decide (c < py) = false := decide_eq_false (by omega)
    have t4 : decide (py < c) = true := decide_eq_true h4
    have t5 : decide (qy < c) = false := decide_eq_false (by omega)
    have t6 : (c != py) = true := by rw [bne_iff_ne]; omega
    clear h1 h2 h3 h4 CA
    have CC := crossCalls (p := ⟨px, py⟩) (q := ⟨qx, qy⟩) (c := c) (up := true) (f := ⟨fq, fr, fd⟩) (e := 0) CRS.out
    have C1 := Lib.hid CC.1
    have C2 := Lib.hid CC.2
    clear CC
    unfold Pt.cells Fr.cells at C1 C2
    dsimp only at C1 C2
    obtain ⟨wa, hwa⟩ : ∃ wa, wa = (w.alloc (.cells #[.int .i64 px, .int .i64 py] 24)).alloc (.cells #[.int .i64 qx, .int .i64 qy] 24) := ⟨_, rfl⟩
    have K0 : Hid (∀ W, Grow wa W → W.heap[w.heap.size]? = some (.cells #[.int .i64 px, .int .i64 py] 24 (0, 0))) := fun W h => by
      subst hwa
      exact blk_al w _ _ (((Grow.refl _).al _).tr h)
    have K1 : Hid (∀ W, Grow wa W → W.heap[w.heap.size + 1]? = some (.cells #[.int .i64 qx, .int .i64 qy] 24 (0, 0))) := fun W h => by
      subst hwa
      have := blk_al _ _ _ h
      rwa [World.size_alloc] at this
    have GX : Hid (Grow w wa) := by subst hwa; exact ((Grow.refl w).al _).al _
    have LW : Hid (w.heap.size + 2 ≤ wa.heap.size) := by subst hwa; rw [World.size_alloc, World.size_alloc]; exact Nat.le_refl _
    go_enter Try.func12, Try.ntmps12
    have z0 := cell_of_row _ w.heap.size 0 _ _ (0, 0) (K0.out _ (Grow.refl _))
    have z1 := cell_of_row _ w.heap.size 1 _ _ (0, 0) (K0.out _ (Grow.refl _))
    have y0 := cell_of_row _ (w.heap.size + 1) 0 _ _ (0, 0) (K1.out _ (Grow.refl _))
    have y1 := cell_of_row _ (w.heap.size + 1) 1 _ _ (0, 0) (K1.out _ (Grow.refl _))
    rw [hwa] at z0 z1 y0 y1
    go_wp2_with fail
    rw [← hwa]
    clear hwa z0 z1 y0 y1
    go_at_call 54
    refine C1.out _ _ ?_
    intro w1 hg1
    have G1 := Lib.hid hg1
    clear hg1
    obtain ⟨wb, hwb⟩ : ∃ wb, wb = w1.alloc (.cells #[.int .i64 fq, .int .u64 fr, .int .u64 fd] 33) := ⟨_, rfl⟩
    have GB : Hid (Grow wa wb) := by rw [hwb]; exact G1.out.al _
    have FB : Hid (∀ W, Grow wb W → W.heap[w1.heap.size]? = some (.cells #[.int .i64 fq, .int .u64 fr, .int .u64 fd] 33 (0, 0))) := fun W h => by
      subst hwb
      exact blk_al w1 _ _ h
    have z0 := cell_of_row _ w.heap.size 0 _ _ (0, 0) (K0.out _ (GB.out))
    have z1 := cell_of_row _ w.heap.size 1 _ _ (0, 0) (K0.out _ (GB.out))
    have y0 := cell_of_row _ (w.heap.size + 1) 0 _ _ (0, 0) (K1.out _ (GB.out))
    have y1 := cell_of_row _ (w.heap.size + 1) 1 _ _ (0, 0) (K1.out _ (GB.out))
    rw [hwb] at z0 z1 y0 y1
    go_wp2_with fail
    rw [← hwb]
    clear hwb z0 z1 y0 y1
    go_at_call 54
    refine C2.out _ _ ?_
    intro w2 hg2
    have G2 := Lib.hid hg2
    clear hg2
    obtain ⟨wc, hwc⟩ : ∃ wc, wc = w2.alloc (.cells #[.int .i64 fq, .int .u64 fr, .int .u64 fd] 33) := ⟨_, rfl⟩
    have GC : Hid (Grow wb wc) := by rw [hwc]; exact G2.out.al _
    have b3 : wc.heap[w2.heap.size]? = some (.cells #[.int .i64 fq, .int .u64 fr, .int .u64 fd] 33 (0, 0)) := by rw [hwc]; exact heap_alloc_new w2 _
    have v0 := cell_of_row _ w1.heap.size 0 _ _ (0, 0) (FB.out _ (GC.out))
    have v1 := cell_of_row _ w1.heap.size 1 _ _ (0, 0) (FB.out _ (GC.out))
    have v2 := cell_of_row _ w1.heap.size 2 _ _ (0, 0) (FB.out _ (GC.out))
    have u0 := cell_of_row _ w2.heap.size 0 _ _ (0, 0) b3
    have u1 := cell_of_row _ w2.heap.size 1 _ _ (0, 0) b3
    have u2 := cell_of_row _ w2.heap.size 2 _ _ (0, 0) b3
    clear b3
    rw [hwc] at v0 v1 v2 u0 u1 u2
    go_wp2_with fail
    rw [← hwc]
    clear hwc v0 v1 v2 u0 u1 u2
    go_at_call 55
    refine code23_any _ _ ?_
    go_wp2_with fail
    go_at_call 55
    refine code23_any _ _ ?_
    have K0 := Lib.hid fun W h => K0.out W (GB.out.tr (GC.out.tr h))
    have K1 := Lib.hid fun W h => K1.out W (GB.out.tr (GC.out.tr h))
    have FB := Lib.hid fun W h => FB.out W (GC.out.tr h)
    have GX := Lib.hid (GX.out.tr (GB.out.tr GC.out))
    have LB := Lib.hid (show w.heap.size + 2 ≤ w1.heap.size by have := LW.out; have := G1.out.size; omega)
    clear G1 G2 GB GC C1 C2 LW
    have z0 := cell_of_row _ w.heap.size 0 _ _ (0, 0) (K0.out _ (Grow.refl wc))
    have z1 := cell_of_row _ w.heap.size 1 _ _ (0, 0) (K0.out _ (Grow.refl wc))
    have y0 := cell_of_row _ (w.heap.size + 1) 0 _ _ (0, 0) (K1.out _ (Grow.refl wc))
    have y1 := cell_of_row _ (w.heap.size + 1) 1 _ _ (0, 0) (K1.out _ (Grow.refl wc))
    go_wp2_with fail
    go_at_call 56
    refine O1.out _ _ ?_
    go_wp2_with fail
    go_at_call 56
    refine O2.out _ _ ?_
    go_wp2_with fail
    go_at_call 56
    refine O3.out _ _ ?_
    go_wp2_with fail
    go_at_call 56
    refine O4.out _ _ ?_
    go_wp2_with fail
    go_at_call 56
    refine O5.out _ _ ?_
    clear O1 O2 O3 O4 O5 CRS
    have kp := K0.out _ (Grow.refl wc)
    have kq := K1.out _ (Grow.refl wc)
    have zf0 := frozen_of_row _ w.heap.size 0 _ _ kp
    have zf1 := frozen_of_row _ w.heap.size 1 _ _ kp
    have yf0 := frozen_of_row _ (w.heap.size + 1) 0 _ _ kq
    have yf1 := frozen_of_row _ (w.heap.size + 1) 1 _ _ kq
    clear kp kq
    go_wp2_with fail
    go_region
    obtain ⟨wd, hwd⟩ : ∃ wd, wd = (st2 (st2 wc w.heap.size (.int .i64 py) (.int .i64 px)) (w.heap.size + 1) (.int .i64 qy) (.int .i64 qx)).drew := ⟨_, rfl⟩
    have K0 : Hid (∀ W, Grow wd W → W.heap[w.heap.size]? = some (.cells #[.int .i64 py, .int .i64 px] 24 (0, 0))) := fun W h => by
      subst hwd
      exact grow_blk h ((st2_other (by omega) _ _).trans (st2_same (K0.out _ (Grow.refl _)) _ _))
    have K1 : Hid (∀ W, Grow wd W → W.heap[w.heap.size + 1]? = some (.cells #[.int .i64 qy, .int .i64 qx] 24 (0, 0))) := fun W h => by
      subst hwd
      exact grow_blk h (st2_same ((st2_other (by omega) _ _).trans (K1.out _ (Grow.refl _))) _ _)
    have FB : Hid (∀ W, Grow wd W → W.heap[w1.heap.size]? = some (.cells #[.int .i64 fq, .int .u64 fr, .int .u64 fd] 33 (0, 0))) := fun W h => by
      subst hwd
      have lb := LB.out
      exact grow_blk h ((st2_other (by omega) _ _).trans ((st2_other (by omega) _ _).trans (FB.out _ (Grow.refl _))))
    have GX : Hid (Grow w wd) := by
      subst hwd
      exact ((GX.out.st2 (by omega) _ _).st2 (by omega) _ _).dr
    simp only [st2] at hwd
    rw [← hwd]
    clear hwd z0 z1 y0 y1 zf0 zf1 yf0 yf1
    have z0 := cell_of_row _ w.heap.size 0 _ _ (0, 0) (K0.out _ (Grow.refl wd))
    have z1 := cell_of_row _ w.heap.size 1 _ _ (0, 0) (K0.out _ (Grow.refl wd))
    have y0 := cell_of_row _ (w.heap.size + 1) 0 _ _ (0, 0) (K1.out _ (Grow.refl wd))
    have y1 := cell_of_row _ (w.heap.size + 1) 1 _ _ (0, 0) (K1.out _ (Grow.refl wd))
    go_wp2_with fail
    clear z0 z1 y0 y1 t1 t2 t4 t5
    refine wp_region_lexT (Grow wd) ((Grow.refl wd).dr) 21 [0, 1, 2, 3, 4, 5, 6, 7, 8, 9, 10, 11, 12, 13, 14, 15, 16, 17, 18, 19, 20] (by kernel_rfl) (by kernel_rfl) (by intro c a d v w h; cases d <;> exact h) ?_
    iterate 1 (apply lext_take; exact rfl; exact rfl; (intro W hW; (try clear hW); go_simp; with_reducible rfl); try simp only [Act.put, List.setIfInBounds_toArray, List.set_cons_zero, List.set_cons_succ])
    apply lext_turn; exact rfl; exact rfl; exact rfl; intro K hK; go_simp; go_at_call 55; refine code23_any _ _ ?_; refine hK.out _ _ (Grow.refl wd).dr ?_; clear hK
    try simp only [Act.put, List.setIfInBounds_toArray, List.set_cons_zero, List.set_cons_succ]
    iterate 2 (apply lext_take; exact rfl; exact rfl; (intro W hW; (try clear hW); go_simp; with_reducible rfl); try simp only [Act.put, List.setIfInBounds_toArray, List.set_cons_zero, List.set_cons_succ])
    apply lext_take; exact rfl; exact rfl
    · intro W hW
      have v0 := cell_of_row _ w1.heap.size 0 _ _ (0, 0) (FB.out _ hW)
      have v1 := cell_of_row _ w1.heap.size 1 _ _ (0, 0) (FB.out _ hW)
      have v2 := cell_of_row _ w1.heap.size 2 _ _ (0, 0) (FB.out _ hW)
      clear hW
      go_simp
      with_reducible rfl
    try simp only [Act.put, List.setIfInBounds_toArray, List.set_cons_zero, List.set_cons_succ]
    iterate 2 (apply lext_take; exact rfl; exact rfl; (intro W hW; have z0 := cell_of_row _ w.heap.size 0 _ _ (0, 0) (K0.out _ hW); have z1 := cell_of_row _ w.heap.size 1 _ _ (0, 0) (K0.out _ hW); have y0 := cell_of_row _ (w.heap.size + 1) 0 _ _ (0, 0) (K1.out _ hW); have y1 := cell_of_row _ (w.heap.size + 1) 1 _ _ (0, 0) (K1.out _ hW); (try clear hW); go_simp; with_reducible rfl); try simp only [Act.put, List.setIfInBounds_toArray, List.set_cons_zero, List.set_cons_succ])
    iterate 1 (apply lext_take; exact rfl; exact rfl; (intro W hW; (try clear hW); go_simp; with_reducible rfl); try simp only [Act.put, List.setIfInBounds_toArray, List.set_cons_zero, List.set_cons_succ])
    apply lext_turn; exact rfl; exact rfl; exact rfl; intro K hK; go_simp; go_at_call 59; refine AT.out _ _ ?_; intro va w3 hg3 hva
    have G3 := Lib.hid ((Grow.refl wd).dr.tr hg3)
    have VA := Lib.hid hva
    refine hK.out _ _ G3.out ?_
    clear hK hg3 hva
    try simp only [Act.put, List.setIfInBounds_toArray, List.set_cons_zero, List.set_cons_succ]
    apply lext_turn; exact rfl; exact rfl; exact rfl; intro K hK; go_simp; go_at_call 58; refine IS.out _ _ _ VA.out _ ?_; intro w4 hg4
    have G4 := Lib.hid (G3.out.tr hg4)
    refine hK.out _ _ G4.out ?_
    clear hK hg4 G3 VA
    try simp only [Act.put, List.setIfInBounds_toArray, List.set_cons_zero, List.set_cons_succ]
    iterate 7 (apply lext_take; exact rfl; exact rfl; (intro W hW; have z0 := cell_of_row _ w.heap.size 0 _ _ (0, 0) (K0.out _ hW); have z1 := cell_of_row _ w.heap.size 1 _ _ (0, 0) (K0.out _ hW); (try clear hW); go_simp; with_reducible rfl); try simp only [Act.put, List.setIfInBounds_toArray, List.set_cons_zero, List.set_cons_succ])
    iterate 4 (apply lext_skip; exact rfl; exact rfl; try simp only [Act.put, List.setIfInBounds_toArray, List.set_cons_zero, List.set_cons_succ])
    refine lext_nil ?_
    simp only [List.drop_succ_cons, List.drop_zero]
    go_wp2_with fail
    go_at_call 57
    refine live23_any _ ?_
    intro w99 hg99
    have HG99 := Lib.hid hg99
    clear hg99
    go_wp2
    exact HR.out _ ((GX.out.tr G4.out).tr HG99.out)

theorem fracCrosses_walk (p q : Pt) (c : Int) (up : Bool) (w : World) {R : Ending → World → Prop} (hR : ∀ w', Grow w w' → R (.returned (.bool true)) w') :
    Calls Try.prog 12 #[.agg p.cells.toArray, .agg q.cells.toArray, .int .i64 c, .bool up] w R := by
  obtain ⟨px, py⟩ := p
  obtain ⟨qx, qy⟩ := q
  cases hf : (Pt.far ⟨px, py⟩ || Pt.far ⟨qx, qy⟩ || !inw c) with
  | true => exact fcrossFar px py qx qy c up w hf hR
  | false =>
    simp only [Bool.or_eq_false_iff] at hf
    obtain ⟨⟨hp, hq⟩, hc⟩ := hf
    cases up with
    | false =>
      cases hn : noneB ⟨px, py⟩ ⟨qx, qy⟩ c with
      | true => exact fcrossNone px py qx qy c w hp hq hc hn hR
      | false => exact fcrossIs px py qx qy c w hp hq hc hn hR
    | true =>
      cases hn : noneB ⟨py, px⟩ ⟨qy, qx⟩ c with
      | true => exact fcrossNoneUp px py qx qy c w hp hq hc hn hR
      | false => exact fcrossIsUp px py qx qy c w hp hq hc hn hR
end Go.Proofs.Ythgibnmnjoniiaa
