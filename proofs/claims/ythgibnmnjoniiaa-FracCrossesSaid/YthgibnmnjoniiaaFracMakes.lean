import Derived.Test.YthgibnmnjoniiaaChecked
import Derived.Test.YthgibnmnjoniiaaCross
namespace Go.Proofs.Ythgibnmnjoniiaa
open Go.RowKit Go.Lib B

set_option maxRecDepth 100000 in
set_option maxHeartbeats 1000000 in
theorem live23_any (w : World) {R : Ending → World → Prop} (hR : ∀ w', Grow w w' → R (.returned (.bool true)) w') :
    Calls Try.prog 57 #[] w R := by
  have HR := Lib.hid hR
  clear hR
  have FR := Lib.hid fun W (R : Ending → World → Prop) hR => fround_any ⟨0, 1, 3⟩ W (by unfold Fr.ok; simp) (R := R) hR
  rw [show Fr.round ⟨0, 1, 3⟩ = 0 by decide +kernel] at FR
  unfold Fr.cells at FR
  dsimp only at FR
  go_enter Try.func57, Try.ntmps57
  go_wp2_with fail
  go_at_call 54
  refine crossEx_any _ ?_
  intro w1 hg1
  have G1 := Lib.hid hg1
  clear hg1
  go_wp2_with fail
  go_at_call 55
  refine code23_any _ _ ?_
  go_wp2_with fail
  go_at_call 66
  refine FR.out _ _ ?_
  intro w2 hg2
  have G2 := Lib.hid ((G1.out.al (.cells #[.int .i64 0, .int .u64 1, .int .u64 3] 33)).tr hg2)
  clear hg2
  go_wp2
  exact HR.out _ G2.out

set_option maxRecDepth 100000 in
set_option maxHeartbeats 8000000 in
theorem fracMakes_walk (q : Int) (r d : Nat) (f : Fr) (w : World) (hq : -9223372036854775808 ≤ q ∧ q ≤ 9223372036854775807) (hr : r < 18446744073709551616) (hd : d < 18446744073709551616) (hf : f.ok) {R : Ending → World → Prop} (hR : ∀ w', Grow w w' → R (.returned (.bool true)) w') :
    Calls Try.prog 13 #[.int .i64 q, .int .u64 r, .int .u64 d, .agg f.cells.toArray] w R := by
  have HR := Lib.hid hR
  clear hR
  have MK := Lib.hid fun W (R : Ending → World → Prop) hR => make_any q r d W hq hr hd (R := R) hR
  have R1 := Lib.hid fun W (R : Ending → World → Prop) hR => right_any f W hf (R := R) hR
  have R2 := Lib.hid fun W (R : Ending → World → Prop) hR => rright_any f W hf (R := R) hR
  have S1 := Lib.hid fun W (R : Ending → World → Prop) hR => same23_any f f W (R := R) hR
  rw [Fr.same_self] at S1
  have SG := Lib.hid fun g W (R : Ending → World → Prop) hR => same23_any f g W (R := R) hR
  have OF := Lib.hid fun W (R : Ending → World → Prop) hR => of23_any q W (R := R) hR
  generalize f.right = fr at *
  obtain ⟨q1, r1, d1⟩ := f
  unfold Fr.cells at R1 R2 S1 SG ⊢
  dsimp only at R1 R2 S1 SG ⊢
  go_enter Try.func13, Try.ntmps13
  go_wp2_with fail
  go_at_call 61
  refine MK.out _ _ ?_
  intro w1 g e hms hg1
  have MS := Lib.hid hms
  have K1 := Lib.hid (blk_al _ _ _ hg1)
  have G1 := Lib.hid (grow_al hg1)
  clear hms hg1
  have SG := Lib.hid (SG.out g)
  have sp := Fr.split ⟨q1, r1, d1⟩ g
  have SPL := Lib.hid sp
  clear sp
  generalize Fr.same ⟨q1, r1, d1⟩ g = sb at *
  obtain ⟨q2, r2, d2⟩ := g
  unfold Fr.cells
  dsimp only at SG SPL ⊢
  have sp := SPL.out
  rcases sp with ⟨e', rfl⟩ | ⟨h | ⟨rfl, h | ⟨e', h⟩⟩, rfl⟩
  · simp only [Fr.mk.injEq] at e'
    obtain ⟨rfl, rfl, rfl⟩ := e'
    go_wp2_with fail
    obtain ⟨wa, hwa⟩ : ∃ wa, wa = w1.alloc (.cells #[.int .i64 q1, .int .u64 ((r1 : Nat) : Int), .int .u64 ((d1 : Nat) : Int)] 33) := ⟨_, rfl⟩
    have GA : Hid (Grow w wa) := by subst hwa; exact G1.out.al _
    have KF : Hid (∀ W, Grow wa W → W.heap[w.heap.size]? = some (.cells #[.int .i64 q1, .int .u64 (r1 : Nat), .int .u64 (d1 : Nat)] 33 (0, 0))) := fun W h => by
      subst hwa
      exact grow_blk (((Grow.refl w1).al _).tr h) K1.out
    have KG : Hid (∀ W, Grow wa W → W.heap[w1.heap.size]? = some (.cells #[.int .i64 q1, .int .u64 ((r1 : Nat) : Int), .int .u64 ((d1 : Nat) : Int)] 33 (0, 0))) := fun W h => by
      subst hwa
      exact blk_al _ _ _ h
    rw [← hwa]
    clear hwa
    refine wp_region_lexT (Grow wa) ((Grow.refl wa).dr) 25 [0, 2, 1, 3, 4, 5, 6, 7, 8, 9, 10, 11, 12, 13, 15, 16, 17, 14, 18, 19, 20, 21, 23, 24, 22] (by kernel_rfl) (by kernel_rfl) (by intro c a d v w h; cases d <;> exact h) ?_
    iterate 2 (apply lext_take; exact rfl; exact rfl; (intro W hW; have z0 := cell_of_row _ w.heap.size 0 _ _ (0, 0) (KF.out _ hW); have z1 := cell_of_row _ w.heap.size 1 _ _ (0, 0) (KF.out _ hW); have z2 := cell_of_row _ w.heap.size 2 _ _ (0, 0) (KF.out _ hW); (try clear hW); go_simp; with_reducible rfl); try simp only [Act.put, List.setIfInBounds_toArray, List.set_cons_zero, List.set_cons_succ])
    apply lext_turn; exact rfl; exact rfl; exact rfl; intro K hK; go_simp; go_at_call 62; refine R1.out _ _ ?_; intro v1 hv1
    have V1 := Lib.hid ((Grow.refl wa).dr.tr hv1)
    refine hK.out _ _ V1.out ?_
    clear hK hv1
    try simp only [Act.put, List.setIfInBounds_toArray, List.set_cons_zero, List.set_cons_succ]
    apply lext_turn; exact rfl; exact rfl; exact rfl; intro K hK; go_simp; go_at_call 63; refine R2.out _ _ ?_; intro v2 hv2
    have V2 := Lib.hid (V1.out.tr hv2)
    refine hK.out _ _ V2.out ?_
    clear hK hv2
    try simp only [Act.put, List.setIfInBounds_toArray, List.set_cons_zero, List.set_cons_succ]
    iterate 4 (apply lext_take; exact rfl; exact rfl; (intro W hW; have z0 := cell_of_row _ w.heap.size 0 _ _ (0, 0) (KF.out _ hW); have z1 := cell_of_row _ w.heap.size 1 _ _ (0, 0) (KF.out _ hW); have z2 := cell_of_row _ w.heap.size 2 _ _ (0, 0) (KF.out _ hW); (try clear hW); go_simp; with_reducible rfl); try simp only [Act.put, List.setIfInBounds_toArray, List.set_cons_zero, List.set_cons_succ])
    apply lext_turn; exact rfl; exact rfl; exact rfl; intro K hK; go_simp; go_at_call 64; refine S1.out _ _ ?_; intro v3 hv3
    have V3 := Lib.hid (V2.out.tr hv3)
    refine hK.out _ _ V3.out ?_
    clear hK hv3
    try simp only [Act.put, List.setIfInBounds_toArray, List.set_cons_zero, List.set_cons_succ]
    iterate 8 (apply lext_take; exact rfl; exact rfl; (intro W hW; have z0 := cell_of_row _ w.heap.size 0 _ _ (0, 0) (KF.out _ hW); have z1 := cell_of_row _ w.heap.size 1 _ _ (0, 0) (KF.out _ hW); have z2 := cell_of_row _ w.heap.size 2 _ _ (0, 0) (KF.out _ hW); have y0 := cell_of_row _ w1.heap.size 0 _ _ (0, 0) (KG.out _ hW); have y1 := cell_of_row _ w1.heap.size 1 _ _ (0, 0) (KG.out _ hW); have y2 := cell_of_row _ w1.heap.size 2 _ _ (0, 0) (KG.out _ hW); (try clear hW); go_simp; with_reducible rfl); try simp only [Act.put, List.setIfInBounds_toArray, List.set_cons_zero, List.set_cons_succ])
    apply lext_turn; exact rfl; exact rfl; exact rfl; intro K hK; go_simp; go_at_call 64; refine SG.out _ _ ?_; intro v4 hv4
    have V4 := Lib.hid (V3.out.tr hv4)
    refine hK.out _ _ V4.out ?_
    clear hK hv4
    try simp only [Act.put, List.setIfInBounds_toArray, List.set_cons_zero, List.set_cons_succ]
    iterate 6 (apply lext_take; exact rfl; exact rfl; (intro W hW; (try clear hW); go_simp; with_reducible rfl); try simp only [Act.put, List.setIfInBounds_toArray, List.set_cons_zero, List.set_cons_succ])
    apply lext_turn; exact rfl; exact rfl; exact rfl; intro K hK; go_simp; go_at_call 60; refine OF.out _ _ ?_; intro v5 hv5
    have V5 := Lib.hid (V4.out.tr hv5)
    refine hK.out _ _ V5.out ?_
    clear hK hv5
    try simp only [Act.put, List.setIfInBounds_toArray, List.set_cons_zero, List.set_cons_succ]
    refine lext_nil ?_
    simp only [List.drop_succ_cons, List.drop_zero]
    have GV := Lib.hid (GA.out.tr V5.out)
    have KG := Lib.hid (KG.out _ V5.out)
    clear V1 V2 V3 V4 V5 KF GA R1 R2 S1 SG OF K1 G1 SPL
    by_cases hle : d ≤ r
    · have u1 : decide (d ≤ r) = true := decide_eq_true hle
      have hm := MS.out
      unfold makeS at hm
      rw [if_pos hle] at hm
      simp only [Prod.mk.injEq, Fr.mk.injEq] at hm
      obtain ⟨⟨hm1, hm2, hm3⟩, hm4⟩ := hm
      subst hm1 hm2 hm3 hm4
      have y0 := cell_of_row _ w1.heap.size 0 _ _ (0, 0) KG.out
      have y1 := cell_of_row _ w1.heap.size 1 _ _ (0, 0) KG.out
      have y2 := cell_of_row _ w1.heap.size 2 _ _ (0, 0) KG.out
      clear hle MS
      go_wp2_with fail
      go_at_call 55
      refine code23_any _ _ ?_
      go_wp2_with fail
      go_at_call 57
      refine live23_any _ ?_
      intro w99 hg99
      have HG99 := Lib.hid hg99
      clear hg99
      go_wp2
      exact HR.out _ ((GV.out).tr HG99.out)
    · have u1 : decide (d ≤ r) = false := decide_eq_false hle
      have hm := MS.out
      unfold makeS at hm
      rw [if_neg hle] at hm
      have RG := Lib.hid fun W (R : Ending → World → Prop) hR => rgcd_any (d + 1) r d W (by omega) hr hd (R := R) hR
      have hg0 : Nat.gcd r d ≠ 0 := by
        intro h
        have := Nat.eq_zero_of_gcd_eq_zero_right h
        omega
      obtain ⟨k, hk⟩ : ∃ k, Nat.gcd r d = k := ⟨_, rfl⟩
      rw [hk] at RG hm hg0
      obtain ⟨x, hx⟩ : ∃ x, r / k = x := ⟨_, rfl⟩
      obtain ⟨y, hy⟩ : ∃ y, d / k = y := ⟨_, rfl⟩
      have hxb : x < 18446744073709551616 := by rw [← hx]; exact Nat.lt_of_le_of_lt (Nat.div_le_self _ _) hr
      have hyb : y < 18446744073709551616 := by rw [← hy]; exact Nat.lt_of_le_of_lt (Nat.div_le_self _ _) hd
      have e1 : IntKind.u64.wrap ((r : Int) / k) = (x : Int) := by rw [← Int.natCast_ediv, hx]; exact IntWalk.u64_in _ (by omega)
      have e2 : IntKind.u64.wrap ((d : Int) / k) = (y : Int) := by rw [← Int.natCast_ediv, hy]; exact IntWalk.u64_in _ (by omega)
      have e3 : ¬ (k : Int) = 0 := by omega
      have e4 : ((k : Int) == 0) = false := by rw [beq_eq_false_iff_ne]; exact e3
      rw [hx, hy] at hm
      have FR := Lib.hid fun W (R : Ending → World → Prop) hR => rright_any ⟨q, x, y⟩ W ⟨hq.1, hq.2, hxb, hyb⟩ (R := R) hR
      unfold Fr.cells at FR
      dsimp only at FR
      obtain ⟨ok, hok⟩ : ∃ ok, Fr.right ⟨q, x, y⟩ = ok := ⟨_, rfl⟩
      rw [hok] at FR hm
      clear hk hx hy hok hle MS
      cases ok with
      | true =>
        simp only [if_true, Prod.mk.injEq, Fr.mk.injEq] at hm
        obtain ⟨⟨hm1, hm2, hm3⟩, hm4⟩ := hm
        subst hm1 hm2 hm3 hm4
        go_wp2_with fail
        go_at_call 50
        refine RG.out _ _ ?_
        go_wp2_with fail
        refine wp_region_lexT (Grow v5) ((Grow.refl v5).dr) 9 [0, 1, 2, 3, 4, 5, 6, 7, 8] (by kernel_rfl) (by kernel_rfl) (by intro c a d v w h; cases d <;> exact h) ?_
        iterate 8 (apply lext_take; exact rfl; exact rfl; (intro W hW; (try clear hW); go_simp; with_reducible rfl); try simp only [Act.put, List.setIfInBounds_toArray, List.set_cons_zero, List.set_cons_succ])
        apply lext_turn; exact rfl; exact rfl; exact rfl; intro K hK; go_simp; refine hK.out _ _ ((Grow.refl v5).dr.al _) ?_; clear hK; try simp only [Act.put, List.setIfInBounds_toArray, List.set_cons_zero, List.set_cons_succ]
        refine lext_nil ?_
        simp only [List.drop_succ_cons, List.drop_zero]
        go_wp2_with fail
        go_at_call 63
        refine FR.out _ _ ?_
        intro v7 hv7
        have HV7 := Lib.hid (((Grow.refl v5).al _).dr.tr hv7)
        have BX := box_at (grow_drew hv7)
        have y0 := cell_of_row _ w1.heap.size 0 _ _ (0, 0) (grow_blk HV7.out KG.out)
        have y1 := cell_of_row _ w1.heap.size 1 _ _ (0, 0) (grow_blk HV7.out KG.out)
        have y2 := cell_of_row _ w1.heap.size 2 _ _ (0, 0) (grow_blk HV7.out KG.out)
        clear hv7
        go_wp2_with fail
        go_at_call 55
        refine code23_any _ _ ?_
        go_wp2_with fail
        go_at_call 57
        refine live23_any _ ?_
        intro w99 hg99
        have HG99 := Lib.hid hg99
        clear hg99
        go_wp2
        exact HR.out _ (((GV.out.tr HV7.out)).tr HG99.out)
      | false =>
        simp only [Bool.false_eq_true, if_false, Prod.mk.injEq, Fr.mk.injEq] at hm
        obtain ⟨⟨hm1, hm2, hm3⟩, hm4⟩ := hm
        subst hm1 hm2 hm3 hm4
        go_wp2_with fail
        go_at_call 50
        refine RG.out _ _ ?_
        go_wp2_with fail
        refine wp_region_lexT (Grow v5) ((Grow.refl v5).dr) 9 [0, 1, 2, 3, 4, 5, 6, 7, 8] (by kernel_rfl) (by kernel_rfl) (by intro c a d v w h; cases d <;> exact h) ?_
        iterate 8 (apply lext_take; exact rfl; exact rfl; (intro W hW; (try clear hW); go_simp; with_reducible rfl); try simp only [Act.put, List.setIfInBounds_toArray, List.set_cons_zero, List.set_cons_succ])
        apply lext_turn; exact rfl; exact rfl; exact rfl; intro K hK; go_simp; refine hK.out _ _ ((Grow.refl v5).dr.al _) ?_; clear hK; try simp only [Act.put, List.setIfInBounds_toArray, List.set_cons_zero, List.set_cons_succ]
        refine lext_nil ?_
        simp only [List.drop_succ_cons, List.drop_zero]
        go_wp2_with fail
        go_at_call 63
        refine FR.out _ _ ?_
        intro v7 hv7
        have HV7 := Lib.hid (((Grow.refl v5).al _).dr.tr hv7)
        have BX := box_at (grow_drew hv7)
        have y0 := cell_of_row _ w1.heap.size 0 _ _ (0, 0) (grow_blk HV7.out KG.out)
        have y1 := cell_of_row _ w1.heap.size 1 _ _ (0, 0) (grow_blk HV7.out KG.out)
        have y2 := cell_of_row _ w1.heap.size 2 _ _ (0, 0) (grow_blk HV7.out KG.out)
        clear hv7
        go_wp2_with fail
        go_at_call 55
        refine code23_any _ _ ?_
        go_wp2_with fail
        go_at_call 57
        refine live23_any _ ?_
        intro w99 hg99
        have HG99 := Lib.hid hg99
        clear hg99
        go_wp2
        exact HR.out _ (((GV.out.tr HV7.out)).tr HG99.out)
  · go_wp2_with fail
    obtain ⟨wa, hwa⟩ : ∃ wa, wa = w1.alloc (.cells #[.int .i64 q2, .int .u64 ((r2 : Nat) : Int), .int .u64 ((d2 : Nat) : Int)] 33) := ⟨_, rfl⟩
    have GA : Hid (Grow w wa) := by subst hwa; exact G1.out.al _
    have KF : Hid (∀ W, Grow wa W → W.heap[w.heap.size]? = some (.cells #[.int .i64 q1, .int .u64 (r1 : Nat), .int .u64 (d1 : Nat)] 33 (0, 0))) := fun W h => by
      subst hwa
      exact grow_blk (((Grow.refl w1).al _).tr h) K1.out
    have KG : Hid (∀ W, Grow wa W → W.heap[w1.heap.size]? = some (.cells #[.int .i64 q2, .int .u64 ((r2 : Nat) : Int), .int .u64 ((d2 : Nat) : Int)] 33 (0, 0))) := fun W h => by
      subst hwa
      exact blk_al _ _ _ h
    rw [← hwa]
    clear hwa
    refine wp_region_lexT (Grow wa) ((Grow.refl wa).dr) 25 [0, 2, 1, 3, 4, 5, 6, 7, 8, 9, 10, 11, 12, 13, 15, 16, 17, 14, 18, 19, 20, 21, 23, 24, 22] (by kernel_rfl) (by kernel_rfl) (by intro c a d v w h; cases d <;> exact h) ?_
    iterate 2 (apply lext_take; exact rfl; exact rfl; (intro W hW; have z0 := cell_of_row _ w.heap.size 0 _ _ (0, 0) (KF.out _ hW); have z1 := cell_of_row _ w.heap.size 1 _ _ (0, 0) (KF.out _ hW); have z2 := cell_of_row _ w.heap.size 2 _ _ (0, 0) (KF.out _ hW); (try clear hW); go_simp; with_reducible rfl); try simp only [Act.put, List.setIfInBounds_toArray, List.set_cons_zero, List.set_cons_succ])
    apply lext_turn; exact rfl; exact rfl; exact rfl; intro K hK; go_simp; go_at_call 62; refine R1.out _ _ ?_; intro v1 hv1
    have V1 := Lib.hid ((Grow.refl wa).dr.tr hv1)
    refine hK.out _ _ V1.out ?_
    clear hK hv1
    try simp only [Act.put, List.setIfInBounds_toArray, List.set_cons_zero, List.set_cons_succ]
    apply lext_turn; exact rfl; exact rfl; exact rfl; intro K hK; go_simp; go_at_call 63; refine R2.out _ _ ?_; intro v2 hv2
    have V2 := Lib.hid (V1.out.tr hv2)
    refine hK.out _ _ V2.out ?_
    clear hK hv2
    try simp only [Act.put, List.setIfInBounds_toArray, List.set_cons_zero, List.set_cons_succ]
    iterate 4 (apply lext_take; exact rfl; exact rfl; (intro W hW; have z0 := cell_of_row _ w.heap.size 0 _ _ (0, 0) (KF.out _ hW); have z1 := cell_of_row _ w.heap.size 1 _ _ (0, 0) (KF.out _ hW); have z2 := cell_of_row _ w.heap.size 2 _ _ (0, 0) (KF.out _ hW); (try clear hW); go_simp; with_reducible rfl); try simp only [Act.put, List.setIfInBounds_toArray, List.set_cons_zero, List.set_cons_succ])
    apply lext_turn; exact rfl; exact rfl; exact rfl; intro K hK; go_simp; go_at_call 64; refine S1.out _ _ ?_; intro v3 hv3
    have V3 := Lib.hid (V2.out.tr hv3)
    refine hK.out _ _ V3.out ?_
    clear hK hv3
    try simp only [Act.put, List.setIfInBounds_toArray, List.set_cons_zero, List.set_cons_succ]
    iterate 8 (apply lext_take; exact rfl; exact rfl; (intro W hW; have z0 := cell_of_row _ w.heap.size 0 _ _ (0, 0) (KF.out _ hW); have z1 := cell_of_row _ w.heap.size 1 _ _ (0, 0) (KF.out _ hW); have z2 := cell_of_row _ w.heap.size 2 _ _ (0, 0) (KF.out _ hW); have y0 := cell_of_row _ w1.heap.size 0 _ _ (0, 0) (KG.out _ hW); have y1 := cell_of_row _ w1.heap.size 1 _ _ (0, 0) (KG.out _ hW); have y2 := cell_of_row _ w1.heap.size 2 _ _ (0, 0) (KG.out _ hW); (try clear hW); go_simp; with_reducible rfl); try simp only [Act.put, List.setIfInBounds_toArray, List.set_cons_zero, List.set_cons_succ])
    apply lext_turn; exact rfl; exact rfl; exact rfl; intro K hK; go_simp; go_at_call 64; refine SG.out _ _ ?_; intro v4 hv4
    have V4 := Lib.hid (V3.out.tr hv4)
    refine hK.out _ _ V4.out ?_
    clear hK hv4
    try simp only [Act.put, List.setIfInBounds_toArray, List.set_cons_zero, List.set_cons_succ]
    iterate 6 (apply lext_take; exact rfl; exact rfl; (intro W hW; (try clear hW); go_simp; with_reducible rfl); try simp only [Act.put, List.setIfInBounds_toArray, List.set_cons_zero, List.set_cons_succ])
    apply lext_turn; exact rfl; exact rfl; exact rfl; intro K hK; go_simp; go_at_call 60; refine OF.out _ _ ?_; intro v5 hv5
    have V5 := Lib.hid (V4.out.tr hv5)
    refine hK.out _ _ V5.out ?_
    clear hK hv5
    try simp only [Act.put, List.setIfInBounds_toArray, List.set_cons_zero, List.set_cons_succ]
    refine lext_nil ?_
    simp only [List.drop_succ_cons, List.drop_zero]
    have GV := Lib.hid (GA.out.tr V5.out)
    have KG := Lib.hid (KG.out _ V5.out)
    clear V1 V2 V3 V4 V5 KF GA R1 R2 S1 SG OF K1 G1 SPL
    by_cases hle : d ≤ r
    · have u1 : decide (d ≤ r) = true := decide_eq_true hle
      have hm := MS.out
      unfold makeS at hm
      rw [if_pos hle] at hm
      simp only [Prod.mk.injEq, Fr.mk.injEq] at hm
      obtain ⟨⟨hm1, hm2, hm3⟩, hm4⟩ := hm
      subst hm1 hm2 hm3 hm4
      have y0 := cell_of_row _ w1.heap.size 0 _ _ (0, 0) KG.out
      have y1 := cell_of_row _ w1.heap.size 1 _ _ (0, 0) KG.out
      have y2 := cell_of_row _ w1.heap.size 2 _ _ (0, 0) KG.out
      clear hle MS
      go_wp2_with fail
      go_at_call 55
      refine code23_any _ _ ?_
      go_wp2_with fail
      go_at_call 57
      refine live23_any _ ?_
      intro w99 hg99
      have HG99 := Lib.hid hg99
      clear hg99
      go_wp2
      exact HR.out _ ((GV.out).tr HG99.out)
    · have u1 : decide (d ≤ r) = false := decide_eq_false hle
      have hm := MS.out
      unfold makeS at hm
      rw [if_neg hle] at hm
      have RG := Lib.hid fun W (R : Ending → World → Prop) hR => rgcd_any (d + 1) r d W (by omega) hr hd (R := R) hR
      have hg0 : Nat.gcd r d ≠ 0 := by
        intro h
        have := Nat.eq_zero_of_gcd_eq_zero_right h
        omega
      obtain ⟨k, hk⟩ : ∃ k, Nat.gcd r d = k := ⟨_, rfl⟩
      rw [hk] at RG hm hg0
      obtain ⟨x, hx⟩ : ∃ x, r / k = x := ⟨_, rfl⟩
      obtain ⟨y, hy⟩ : ∃ y, d / k = y := ⟨_, rfl⟩
      have hxb : x < 18446744073709551616 := by rw [← hx]; exact Nat.lt_of_le_of_lt (Nat.div_le_self _ _) hr
      have hyb : y < 18446744073709551616 := by rw [← hy]; exact Nat.lt_of_le_of_lt (Nat.div_le_self _ _) hd
      have e1 : IntKind.u64.wrap ((r : Int) / k) = (x : Int) := by rw [← Int.natCast_ediv, hx]; exact IntWalk.u64_in _ (by omega)
      have e2 : IntKind.u64.wrap ((d : Int) / k) = (y : Int) := by rw [← Int.natCast_ediv, hy]; exact IntWalk.u64_in _ (by omega)
      have e3 : ¬ (k : Int) = 0 := by omega
      have e4 : ((k : Int) == 0) = false := by rw [beq_eq_false_iff_ne]; exact e3
      rw [hx, hy] at hm
      have FR := Lib.hid fun W (R : Ending → World → Prop) hR => rright_any ⟨q, x, y⟩ W ⟨hq.1, hq.2, hxb, hyb⟩ (R := R) hR
      unfold Fr.cells at FR
      dsimp only at FR
      obtain ⟨ok, hok⟩ : ∃ ok, Fr.right ⟨q, x, y⟩ = ok := ⟨_, rfl⟩
      rw [hok] at FR hm
      clear hk hx hy hok hle MS
      cases ok with
      | true =>
        simp only [if_true, Prod.mk.injEq, Fr.mk.injEq] at hm
        obtain ⟨⟨hm1, hm2, hm3⟩, hm4⟩ := hm
        subst hm1 hm2 hm3 hm4
        go_wp2_with fail
        go_at_call 50
        refine RG.out _ _ ?_
        go_wp2_with fail
        refine wp_region_lexT (Grow v5) ((Grow.refl v5).dr) 9 [0, 1, 2, 3, 4, 5, 6, 7, 8] (by kernel_rfl) (by kernel_rfl) (by intro c a d v w h; cases d <;> exact h) ?_
        iterate 8 (apply lext_take; exact rfl; exact rfl; (intro W hW; (try clear hW); go_simp; with_reducible rfl); try simp only [Act.put, List.setIfInBounds_toArray, List.set_cons_zero, List.set_cons_succ])
        apply lext_turn; exact rfl; exact rfl; exact rfl; intro K hK; go_simp; refine hK.out _ _ ((Grow.refl v5).dr.al _) ?_; clear hK; try simp only [Act.put, List.setIfInBounds_toArray, List.set_cons_zero, List.set_cons_succ]
        refine lext_nil ?_
        simp only [List.drop_succ_cons, List.drop_zero]
        go_wp2_with fail
        go_at_call 63
        refine FR.out _ _ ?_
        intro v7 hv7
        have HV7 := Lib.hid (((Grow.refl v5).al _).dr.tr hv7)
        have BX := box_at (grow_drew hv7)
        have y0 := cell_of_row _ w1.heap.size 0 _ _ (0, 0) (grow_blk HV7.out KG.out)
        have y1 := cell_of_row _ w1.heap.size 1 _ _ (0, 0) (grow_blk HV7.out KG.out)
        have y2 := cell_of_row _ w1.heap.size 2 _ _ (0, 0) (grow_blk HV7.out KG.out)
        clear hv7
        go_wp2_with fail
        go_at_call 55
        refine code23_any _ _ ?_
        go_wp2_with fail
        go_at_call 57
        refine live23_any _ ?_
        intro w99 hg99
        have HG99 := Lib.hid hg99
        clear hg99
        go_wp2
        exact HR.out _ (((GV.out.tr HV7.out)).tr HG99.out)
      | false =>
        simp only [Bool.false_eq_true, if_false, Prod.mk.injEq, Fr.mk.injEq] at hm
        obtain ⟨⟨hm1, hm2, hm3⟩, hm4⟩ := hm
        subst hm1 hm2 hm3 hm4
        go_wp2_with fail
        go_at_call 50
        refine RG.out _ _ ?_
        go_wp2_with fail
        refine wp_region_lexT (Grow v5) ((Grow.refl v5).dr) 9 [0, 1, 2, 3, 4, 5, 6, 7, 8] (by kernel_rfl) (by kernel_rfl) (by intro c a d v w h; cases d <;> exact h) ?_
        iterate 8 (apply lext_take; exact rfl; exact rfl; (intro W hW; (try clear hW); go_simp; with_reducible rfl); try simp only [Act.put, List.setIfInBounds_toArray, List.set_cons_zero, List.set_cons_succ])
        apply lext_turn; exact rfl; exact rfl; exact rfl; intro K hK; go_simp; refine hK.out _ _ ((Grow.refl v5).dr.al _) ?_; clear hK; try simp only [Act.put, List.setIfInBounds_toArray, List.set_cons_zero, List.set_cons_succ]
        refine lext_nil ?_
        simp only [List.drop_succ_cons, List.drop_zero]
        go_wp2_with fail
        go_at_call 63
        refine FR.out _ _ ?_
        intro v7 hv7
        have HV7 := Lib.hid (((Grow.refl v5).al _).dr.tr hv7)
        have BX := box_at (grow_drew hv7)
        have y0 := cell_of_row _ w1.heap.size 0 _ _ (0, 0) (grow_blk HV7.out KG.out)
        have y1 := cell_of_row _ w1.heap.size 1 _ _ (0, 0) (grow_blk HV7.out KG.out)
        have y2 := cell_of_row _ w1.heap.size 2 _ _ (0, 0) (grow_blk HV7.out KG.out)
        clear hv7
        go_wp2_with fail
        go_at_call 55
        refine code23_any _ _ ?_
        go_wp2_with fail
        go_at_call 57
        refine live23_any _ ?_
        intro w99 hg99
        have HG99 := Lib.hid hg99
        clear hg99
        go_wp2
        exact HR.out _ (((GV.out.tr HV7.out)).tr HG99.out)
  · go_wp2_with fail
    obtain ⟨wa, hwa⟩ : ∃ wa, wa = w1.alloc (.cells #[.int .i64 q1, .int .u64 ((r2 : Nat) : Int), .int .u64 ((d2 : Nat) : Int)] 33) := ⟨_, rfl⟩
    have GA : Hid (Grow w wa) := by subst hwa; exact G1.out.al _
    have KF : Hid (∀ W, Grow wa W → W.heap[w.heap.size]? = some (.cells #[.int .i64 q1, .int .u64 (r1 : Nat), .int .u64 (d1 : Nat)] 33 (0, 0))) := fun W h => by
      subst hwa
      exact grow_blk (((Grow.refl w1).al _).tr h) K1.out
    have KG : Hid (∀ W, Grow wa W → W.heap[w1.heap.size]? = some (.cells #[.int .i64 q1, .int .u64 ((r2 : Nat) : Int), .int .u64 ((d2 : Nat) : Int)] 33 (0, 0))) := fun W h => by
      subst hwa
      exact blk_al _ _ _ h
    rw [← hwa]
    clear hwa
    refine wp_region_lexT (Grow wa) ((Grow.refl wa).dr) 25 [0, 2, 1, 3, 4, 5, 6, 7, 8, 9, 10, 11, 12, 13, 15, 16, 17, 14, 18, 19, 20, 21, 23, 24, 22] (by kernel_rfl) (by kernel_rfl) (by intro c a d v w h; cases d <;> exact h) ?_
    iterate 2 (apply lext_take; exact rfl; exact rfl; (intro W hW; have z0 := cell_of_row _ w.heap.size 0 _ _ (0, 0) (KF.out _ hW); have z1 := cell_of_row _ w.heap.size 1 _ _ (0, 0) (KF.out _ hW); have z2 := cell_of_row _ w.heap.size 2 _ _ (0, 0) (KF.out _ hW); (try clear hW); go_simp; with_reducible rfl); try simp only [Act.put, List.setIfInBounds_toArray, List.set_cons_zero, List.set_cons_succ])
    apply lext_turn; exact rfl; exact rfl; exact rfl; intro K hK; go_simp; go_at_call 62; refine R1.out _ _ ?_; intro v1 hv1
    have V1 := Lib.hid ((Grow.refl wa).dr.tr hv1)
    refine hK.out _ _ V1.out ?_
    clear hK hv1
    try simp only [Act.put, List.setIfInBounds_toArray, List.set_cons_zero, List.set_cons_succ]
    apply lext_turn; exact rfl; exact rfl; exact rfl; intro K hK; go_simp; go_at_call 63; refine R2.out _ _ ?_; intro v2 hv2
    have V2 := Lib.hid (V1.out.tr hv2)
    refine hK.out _ _ V2.out ?_
    clear hK hv2
    try simp only [Act.put, List.setIfInBounds_toArray, List.set_cons_zero, List.set_cons_succ]
    iterate 4 (apply lext_take; exact rfl; exact rfl; (intro W hW; have z0 := cell_of_row _ w.heap.size 0 _ _ (0, 0) (KF.out _ hW); have z1 := cell_of_row _ w.heap.size 1 _ _ (0, 0) (KF.out _ hW); have z2 := cell_of_row _ w.heap.size 2 _ _ (0, 0) (KF.out _ hW); (try clear hW); go_simp; with_reducible rfl); try simp only [Act.put, List.setIfInBounds_toArray, List.set_cons_zero, List.set_cons_succ])
    apply lext_turn; exact rfl; exact rfl; exact rfl; intro K hK; go_simp; go_at_call 64; refine S1.out _ _ ?_; intro v3 hv3
    have V3 := Lib.hid (V2.out.tr hv3)
    refine hK.out _ _ V3.out ?_
    clear hK hv3
    try simp only [Act.put, List.setIfInBounds_toArray, List.set_cons_zero, List.set_cons_succ]
    iterate 8 (apply lext_take; exact rfl; exact rfl; (intro W hW; have z0 := cell_of_row _ w.heap.size 0 _ _ (0, 0) (KF.out _ hW); have z1 := cell_of_row _ w.heap.size 1 _ _ (0, 0) (KF.out _ hW); have z2 := cell_of_row _ w.heap.size 2 _ _ (0, 0) (KF.out _ hW); have y0 := cell_of_row _ w1.heap.size 0 _ _ (0, 0) (KG.out _ hW); have y1 := cell_of_row _ w1.heap.size 1 _ _ (0, 0) (KG.out _ hW); have y2 := cell_of_row _ w1.heap.size 2 _ _ (0, 0) (KG.out _ hW); (try clear hW); go_simp; with_reducible rfl); try simp only [Act.put, List.setIfInBounds_toArray, List.set_cons_zero, List.set_cons_succ])
    apply lext_turn; exact rfl; exact rfl; exact rfl; intro K hK; go_simp; go_at_call 64; refine SG.out _ _ ?_; intro v4 hv4
    have V4 := Lib.hid (V3.out.tr hv4)
    refine hK.out _ _ V4.out ?_
    clear hK hv4
    try simp only [Act.put, List.setIfInBounds_toArray, List.set_cons_zero, List.set_cons_succ]
    iterate 6 (apply lext_take; exact rfl; exact rfl; (intro W hW; (try clear hW); go_simp; with_reducible rfl); try simp only [Act.put, List.setIfInBounds_toArray, List.set_cons_zero, List.set_cons_succ])
    apply lext_turn; exact rfl; exact rfl; exact rfl; intro K hK; go_simp; go_at_call 60; refine OF.out _ _ ?_; intro v5 hv5
    have V5 := Lib.hid (V4.out.tr hv5)
    refine hK.out _ _ V5.out ?_
    clear hK hv5
    try simp only [Act.put, List.setIfInBounds_toArray, List.set_cons_zero, List.set_cons_succ]
    refine lext_nil ?_
    simp only [List.drop_succ_cons, List.drop_zero]
    have GV := Lib.hid (GA.out.tr V5.out)
    have KG := Lib.hid (KG.out _ V5.out)
    clear V1 V2 V3 V4 V5 KF GA R1 R2 S1 SG OF K1 G1 SPL
    by_cases hle : d ≤ r
    · have u1 : decide (d ≤ r) = true := decide_eq_true hle
      have hm := MS.out
      unfold makeS at hm
      rw [if_pos hle] at hm
      simp only [Prod.mk.injEq, Fr.mk.injEq] at hm
      obtain ⟨⟨hm1, hm2, hm3⟩, hm4⟩ := hm
      subst hm1 hm2 hm3 hm4
      have y0 := cell_of_row _ w1.heap.size 0 _ _ (0, 0) KG.out
      have y1 := cell_of_row _ w1.heap.size 1 _ _ (0, 0) KG.out
      have y2 := cell_of_row _ w1.heap.size 2 _ _ (0, 0) KG.out
      clear hle MS
      go_wp2_with fail
      go_at_call 55
      refine code23_any _ _ ?_
      go_wp2_with fail
      go_at_call 57
      refine live23_any _ ?_
      intro w99 hg99
      have HG99 := Lib.hid hg99
      clear hg99
      go_wp2
      exact HR.out _ ((GV.out).tr HG99.out)
    · have u1 : decide (d ≤ r) = false := decide_eq_false hle
      have hm := MS.out
      unfold makeS at hm
      rw [if_neg hle] at hm
      have RG := Lib.hid fun W (R : Ending → World → Prop) hR => rgcd_any (d + 1) r d W (by omega) hr hd (R := R) hR
      have hg0 : Nat.gcd r d ≠ 0 := by
        intro h
        have := Nat.eq_zero_of_gcd_eq_zero_right h
        omega
      obtain ⟨k, hk⟩ : ∃ k, Nat.gcd r d = k := ⟨_, rfl⟩
      rw [hk] at RG hm hg0
      obtain ⟨x, hx⟩ : ∃ x, r / k = x := ⟨_, rfl⟩
      obtain ⟨y, hy⟩ : ∃ y, d / k = y := ⟨_, rfl⟩
      have hxb : x < 18446744073709551616 := by rw [← hx]; exact Nat.lt_of_le_of_lt (Nat.div_le_self _ _) hr
      have hyb : y < 18446744073709551616 := by rw [← hy]; exact Nat.lt_of_le_of_lt (Nat.div_le_self _ _) hd
      have e1 : IntKind.u64.wrap ((r : Int) / k) = (x : Int) := by rw [← Int.natCast_ediv, hx]; exact IntWalk.u64_in _ (by omega)
      have e2 : IntKind.u64.wrap ((d : Int) / k) = (y : Int) := by rw [← Int.natCast_ediv, hy]; exact IntWalk.u64_in _ (by omega)
      have e3 : ¬ (k : Int) = 0 := by omega
      have e4 : ((k : Int) == 0) = false := by rw [beq_eq_false_iff_ne]; exact e3
      rw [hx, hy] at hm
      have FR := Lib.hid fun W (R : Ending → World → Prop) hR => rright_any ⟨q, x, y⟩ W ⟨hq.1, hq.2, hxb, hyb⟩ (R := R) hR
      unfold Fr.cells at FR
      dsimp only at FR
      obtain ⟨ok, hok⟩ : ∃ ok, Fr.right ⟨q, x, y⟩ = ok := ⟨_, rfl⟩
      rw [hok] at FR hm
      clear hk hx hy hok hle MS
      cases ok with
      | true =>
        simp only [if_true, Prod.mk.injEq, Fr.mk.injEq] at hm
        obtain ⟨⟨hm1, hm2, hm3⟩, hm4⟩ := hm
        subst hm1 hm2 hm3 hm4
        go_wp2_with fail
        go_at_call 50
        refine RG.out _ _ ?_
        go_wp2_with fail
        refine wp_region_lexT (Grow v5) ((Grow.refl v5).dr) 9 [0, 1, 2, 3, 4, 5, 6, 7, 8] (by kernel_rfl) (by kernel_rfl) (by intro c a d v w h; cases d <;> exact h) ?_
        iterate 8 (apply lext_take; exact rfl; exact rfl; (intro W hW; (try clear hW); go_simp; with_reducible rfl); try simp only [Act.put, List.setIfInBounds_toArray, List.set_cons_zero, List.set_cons_succ])
        apply lext_turn; exact rfl; exact rfl; exact rfl; intro K hK; go_simp; refine hK.out _ _ ((Grow.refl v5).dr.al _) ?_; clear hK; try simp only [Act.put, List.setIfInBounds_toArray, List.set_cons_zero, List.set_cons_succ]
        refine lext_nil ?_
        simp only [List.drop_succ_cons, List.drop_zero]
        go_wp2_with fail
        go_at_call 63
        refine FR.out _ _ ?_
        intro v7 hv7
        have HV7 := Lib.hid (((Grow.refl v5).al _).dr.tr hv7)
        have BX := box_at (grow_drew hv7)
        have y0 := cell_of_row _ w1.heap.size 0 _ _ (0, 0) (grow_blk HV7.out KG.out)
        have y1 := cell_of_row _ w1.heap.size 1 _ _ (0, 0) (grow_blk HV7.out KG.out)
        have y2 := cell_of_row _ w1.heap.size 2 _ _ (0, 0) (grow_blk HV7.out KG.out)
        clear hv7
        go_wp2_with fail
        go_at_call 55
        refine code23_any _ _ ?_
        go_wp2_with fail
        go_at_call 57
        refine live23_any _ ?_
        intro w99 hg99
        have HG99 := Lib.hid hg99
        clear hg99
        go_wp2
        exact HR.out _ (((GV.out.tr HV7.out)).tr HG99.out)
      | false =>
        simp only [Bool.false_eq_true, if_false, Prod.mk.injEq, Fr.mk.injEq] at hm
        obtain ⟨⟨hm1, hm2, hm3⟩, hm4⟩ := hm
        subst hm1 hm2 hm3 hm4
        go_wp2_with fail
        go_at_call 50
        refine RG.out _ _ ?_
        go_wp2_with fail
        refine wp_region_lexT (Grow v5) ((Grow.refl v5).dr) 9 [0, 1, 2, 3, 4, 5, 6, 7, 8] (by kernel_rfl) (by kernel_rfl) (by intro c a d v w h; cases d <;> exact h) ?_
        iterate 8 (apply lext_take; exact rfl; exact rfl; (intro W hW; (try clear hW); go_simp; with_reducible rfl); try simp only [Act.put, List.setIfInBounds_toArray, List.set_cons_zero, List.set_cons_succ])
        apply lext_turn; exact rfl; exact rfl; exact rfl; intro K hK; go_simp; refine hK.out _ _ ((Grow.refl v5).dr.al _) ?_; clear hK; try simp only [Act.put, List.setIfInBounds_toArray, List.set_cons_zero, List.set_cons_succ]
        refine lext_nil ?_
        simp only [List.drop_succ_cons, List.drop_zero]
        go_wp2_with fail
        go_at_call 63
        refine FR.out _ _ ?_
        intro v7 hv7
        have HV7 := Lib.hid (((Grow.refl v5).al _).dr.tr hv7)
        have BX := box_at (grow_drew hv7)
        have y0 := cell_of_row _ w1.heap.size 0 _ _ (0, 0) (grow_blk HV7.out KG.out)
        have y1 := cell_of_row _ w1.heap.size 1 _ _ (0, 0) (grow_blk HV7.out KG.out)
        have y2 := cell_of_row _ w1.heap.size 2 _ _ (0, 0) (grow_blk HV7.out KG.out)
        clear hv7
        go_wp2_with fail
        go_at_call 55
        refine code23_any _ _ ?_
        go_wp2_with fail
        go_at_call 57
        refine live23_any _ ?_
        intro w99 hg99
        have HG99 := Lib.hid hg99
        clear hg99
        go_wp2
        exact HR.out _ (((GV.out.tr HV7.out)).tr HG99.out)
  · subst e'
    go_wp2_with fail
    obtain ⟨wa, hwa⟩ : ∃ wa, wa = w1.alloc (.cells #[.int .i64 q1, .int .u64 ((r1 : Nat) : Int), .int .u64 ((d2 : Nat) : Int)] 33) := ⟨_, rfl⟩
    have GA : Hid (Grow w wa) := by subst hwa; exact G1.out.al _
    have KF : Hid (∀ W, Grow wa W → W.heap[w.heap.size]? = some (.cells #[.int .i64 q1, .int .u64 (r1 : Nat), .int .u64 (d1 : Nat)] 33 (0, 0))) := fun W h => by
      subst hwa
      exact grow_blk (((Grow.refl w1).al _).tr h) K1.out
    have KG : Hid (∀ W, Grow wa W → W.heap[w1.heap.size]? = some (.cells #[.int .i64 q1, .int .u64 ((r1 : Nat) : Int), .int .u64 ((d2 : Nat) : Int)] 33 (0, 0))) := fun W h => by
      subst hwa
      exact blk_al _ _ _ h
    rw [← hwa]
    clear hwa
    refine wp_region_lexT (Grow wa) ((Grow.refl wa).dr) 25 [0, 2, 1, 3, 4, 5, 6, 7, 8, 9, 10, 11, 12, 13, 15, 16, 17, 14, 18, 19, 20, 21, 23, 24, 22] (by kernel_rfl) (by kernel_rfl) (by intro c a d v w h; cases d <;> exact h) ?_
    iterate 2 (apply lext_take; exact rfl; exact rfl; (intro W hW; have z0 := cell_of_row _ w.heap.size 0 _ _ (0, 0) (KF.out _ hW); have z1 := cell_of_row _ w.heap.size 1 _ _ (0, 0) (KF.out _ hW); have z2 := cell_of_row _ w.heap.size 2 _ _ (0, 0) (KF.out _ hW); (try clear hW); go_simp; with_reducible rfl); try simp only [Act.put, List.setIfInBounds_toArray, List.set_cons_zero, List.set_cons_succ])
    apply lext_turn; exact rfl; exact rfl; exact rfl; intro K hK; go_simp; go_at_call 62; refine R1.out _ _ ?_; intro v1 hv1
    have V1 := Lib.hid ((Grow.refl wa).dr.tr hv1)
    refine hK.out _ _ V1.out ?_
    clear hK hv1
    try simp only [Act.put, List.setIfInBounds_toArray, List.set_cons_zero, List.set_cons_succ]
    apply lext_turn; exact rfl; exact rfl; exact rfl; intro K hK; go_simp; go_at_call 63; refine R2.out _ _ ?_; intro v2 hv2
    have V2 := Lib.hid (V1.out.tr hv2)
    refine hK.out _ _ V2.out ?_
    clear hK hv2
    try simp only [Act.put, List.setIfInBounds_toArray, List.set_cons_zero, List.set_cons_succ]
    iterate 4 (apply lext_take; exact rfl; exact rfl; (intro W hW; have z0 := cell_of_row _ w.heap.size 0 _ _ (0, 0) (KF.out _ hW); have z1 := cell_of_row _ w.heap.size 1 _ _ (0, 0) (KF.out _ hW); have z2 := cell_of_row _ w.heap.size 2 _ _ (0, 0) (KF.out _ hW); (try clear hW); go_simp; with_reducible rfl); try simp only [Act.put, List.setIfInBounds_toArray, List.set_cons_zero, List.set_cons_succ])
    apply lext_turn; exact rfl; exact rfl; exact rfl; intro K hK; go_simp; go_at_call 64; refine S1.out _ _ ?_; intro v3 hv3
    have V3 := Lib.hid (V2.out.tr hv3)
    refine hK.out _ _ V3.out ?_
    clear hK hv3
    try simp only [Act.put, List.setIfInBounds_toArray, List.set_cons_zero, List.set_cons_succ]
    iterate 8 (apply lext_take; exact rfl; exact rfl; (intro W hW; have z0 := cell_of_row _ w.heap.size 0 _ _ (0, 0) (KF.out _ hW); have z1 := cell_of_row _ w.heap.size 1 _ _ (0, 0) (KF.out _ hW); have z2 := cell_of_row _ w.heap.size 2 _ _ (0, 0) (KF.out _ hW); have y0 := cell_of_row _ w1.heap.size 0 _ _ (0, 0) (KG.out _ hW); have y1 := cell_of_row _ w1.heap.size 1 _ _ (0, 0) (KG.out _ hW); have y2 := cell_of_row _ w1.heap.size 2 _ _ (0, 0) (KG.out _ hW); (try clear hW); go_simp; with_reducible rfl); try simp only [Act.put, List.setIfInBounds_toArray, List.set_cons_zero, List.set_cons_succ])
    apply lext_turn; exact rfl; exact rfl; exact rfl; intro K hK; go_simp; go_at_call 64; refine SG.out _ _ ?_; intro v4 hv4
    have V4 := Lib.hid (V3.out.tr hv4)
    refine hK.out _ _ V4.out ?_
    clear hK hv4
    try simp only [Act.put, List.setIfInBounds_toArray, List.set_cons_zero, List.set_cons_succ]
    iterate 6 (apply lext_take; exact rfl; exact rfl; (intro W hW; (try clear hW); go_simp; with_reducible rfl); try simp only [Act.put, List.setIfInBounds_toArray, List.set_cons_zero, List.set_cons_succ])
    apply lext_turn; exact rfl; exact rfl; exact rfl; intro K hK; go_simp; go_at_call 60; refine OF.out _ _ ?_; intro v5 hv5
    have V5 := Lib.hid (V4.out.tr hv5)
    refine hK.out _ _ V5.out ?_
    clear hK hv5
    try simp only [Act.put, List.setIfInBounds_toArray, List.set_cons_zero, List.set_cons_succ]
    refine lext_nil ?_
    simp only [List.drop_succ_cons, List.drop_zero]
    have GV := Lib.hid (GA.out.tr V5.out)
    have KG := Lib.hid (KG.out _ V5.out)
    clear V1 V2 V3 V4 V5 KF GA R1 R2 S1 SG OF K1 G1 SPL
    by_cases hle : d ≤ r
    · have u1 : decide (d ≤ r) = true := decide_eq_true hle
      have hm := MS.out
      unfold makeS at hm
      rw [if_pos hle] at hm
      simp only [Prod.mk.injEq, Fr.mk.injEq] at hm
      obtain ⟨⟨hm1, hm2, hm3⟩, hm4⟩ := hm
      subst hm1 hm2 hm3 hm4
      have y0 := cell_of_row _ w1.heap.size 0 _ _ (0, 0) KG.out
      have y1 := cell_of_row _ w1.heap.size 1 _ _ (0, 0) KG.out
      have y2 := cell_of_row _ w1.heap.size 2 _ _ (0, 0) KG.out
      clear hle MS
      go_wp2_with fail
      go_at_call 55
      refine code23_any _ _ ?_
      go_wp2_with fail
      go_at_call 57
      refine live23_any _ ?_
      intro w99 hg99
      have HG99 := Lib.hid hg99
      clear hg99
      go_wp2
      exact HR.out _ ((GV.out).tr HG99.out)
    · have u1 : decide (d ≤ r) = false := decide_eq_false hle
      have hm := MS.out
      unfold makeS at hm
      rw [if_neg hle] at hm
      have RG := Lib.hid fun W (R : Ending → World → Prop) hR => rgcd_any (d + 1) r d W (by omega) hr hd (R := R) hR
      have hg0 : Nat.gcd r d ≠ 0 := by
        intro h
        have := Nat.eq_zero_of_gcd_eq_zero_right h
        omega
      obtain ⟨k, hk⟩ : ∃ k, Nat.gcd r d = k := ⟨_, rfl⟩
      rw [hk] at RG hm hg0
      obtain ⟨x, hx⟩ : ∃ x, r / k = x := ⟨_, rfl⟩
      obtain ⟨y, hy⟩ : ∃ y, d / k = y := ⟨_, rfl⟩
      have hxb : x < 18446744073709551616 := by rw [← hx]; exact Nat.lt_of_le_of_lt (Nat.div_le_self _ _) hr
      have hyb : y < 18446744073709551616 := by rw [← hy]; exact Nat.lt_of_le_of_lt (Nat.div_le_self _ _) hd
      have e1 : IntKind.u64.wrap ((r : Int) / k) = (x : Int) := by rw [← Int.natCast_ediv, hx]; exact IntWalk.u64_in _ (by omega)
      have e2 : IntKind.u64.wrap ((d : Int) / k) = (y : Int) := by rw [← Int.natCast_ediv, hy]; exact IntWalk.u64_in _ (by omega)
      have e3 : ¬ (k : Int) = 0 := by omega
      have e4 : ((k : Int) == 0) = false := by rw [beq_eq_false_iff_ne]; exact e3
      rw [hx, hy] at hm
      have FR := Lib.hid fun W (R : Ending → World → Prop) hR => rright_any ⟨q, x, y⟩ W ⟨hq.1, hq.2, hxb, hyb⟩ (R := R) hR
      unfold Fr.cells at FR
      dsimp only at FR
      obtain ⟨ok, hok⟩ : ∃ ok, Fr.right ⟨q, x, y⟩ = ok := ⟨_, rfl⟩
      rw [hok] at FR hm
      clear hk hx hy hok hle MS
      cases ok with
      | true =>
        simp only [if_true, Prod.mk.injEq, Fr.mk.injEq] at hm
        obtain ⟨⟨hm1, hm2, hm3⟩, hm4⟩ := hm
        subst hm1 hm2 hm3 hm4
        go_wp2_with fail
        go_at_call 50
        refine RG.out _ _ ?_
        go_wp2_with fail
        refine wp_region_lexT (Grow v5) ((Grow.refl v5).dr) 9 [0, 1, 2, 3, 4, 5, 6, 7, 8] (by kernel_rfl) (by kernel_rfl) (by intro c a d v w h; cases d <;> exact h) ?_
        iterate 8 (apply lext_take; exact rfl; exact rfl; (intro W hW; (try clear hW); go_simp; with_reducible rfl); try simp only [Act.put, List.setIfInBounds_toArray, List.set_cons_zero, List.set_cons_succ])
        apply lext_turn; exact rfl; exact rfl; exact rfl; intro K hK; go_simp; refine hK.out _ _ ((Grow.refl v5).dr.al _) ?_; clear hK; try simp only [Act.put, List.setIfInBounds_toArray, List.set_cons_zero, List.set_cons_succ]
        refine lext_nil ?_
        simp only [List.drop_succ_cons, List.drop_zero]
        go_wp2_with fail
        go_at_call 63
        refine FR.out _ _ ?_
        intro v7 hv7
        have HV7 := Lib.hid (((Grow.refl v5).al _).dr.tr hv7)
        have BX := box_at (grow_drew hv7)
        have y0 := cell_of_row _ w1.heap.size 0 _ _ (0, 0) (grow_blk HV7.out KG.out)
        have y1 := cell_of_row _ w1.heap.size 1 _ _ (0, 0) (grow_blk HV7.out KG.out)
        have y2 := cell_of_row _ w1.heap.size 2 _ _ (0, 0) (grow_blk HV7.out KG.out)
        clear hv7
        go_wp2_with fail
        go_at_call 55
        refine code23_any _ _ ?_
        go_wp2_with fail
        go_at_call 57
        refine live23_any _ ?_
        intro w99 hg99
        have HG99 := Lib.hid hg99
        clear hg99
        go_wp2
        exact HR.out _ (((GV.out.tr HV7.out)).tr HG99.out)
      | false =>
        simp only [Bool.false_eq_true, if_false, Prod.mk.injEq, Fr.mk.injEq] at hm
        obtain ⟨⟨hm1, hm2, hm3⟩, hm4⟩ := hm
        subst hm1 hm2 hm3 hm4
        go_wp2_with fail
        go_at_call 50
        refine RG.out _ _ ?_
        go_wp2_with fail
        refine wp_region_lexT (Grow v5) ((Grow.refl v5).dr) 9 [0, 1, 2, 3, 4, 5, 6, 7, 8] (by kernel_rfl) (by kernel_rfl) (by intro c a d v w h; cases d <;> exact h) ?_
        iterate 8 (apply lext_take; exact rfl; exact rfl; (intro W hW; (try clear hW); go_simp; with_reducible rfl); try simp only [Act.put, List.setIfInBounds_toArray, List.set_cons_zero, List.set_cons_succ])
        apply lext_turn; exact rfl; exact rfl; exact rfl; intro K hK; go_simp; refine hK.out _ _ ((Grow.refl v5).dr.al _) ?_; clear hK; try simp only [Act.put, List.setIfInBounds_toArray, List.set_cons_zero, List.set_cons_succ]
        refine lext_nil ?_
        simp only [List.drop_succ_cons, List.drop_zero]
        go_wp2_with fail
        go_at_call 63
        refine FR.out _ _ ?_
        intro v7 hv7
        have HV7 := Lib.hid (((Grow.refl v5).al _).dr.tr hv7)
        have BX := box_at (grow_drew hv7)
        have y0 := cell_of_row _ w1.heap.size 0 _ _ (0, 0) (grow_blk HV7.out KG.out)
        have y1 := cell_of_row _ w1.heap.size 1 _ _ (0, 0) (grow_blk HV7.out KG.out)
        have y2 := cell_of_row _ w1.heap.size 2 _ _ (0, 0) (grow_blk HV7.out KG.out)
        clear hv7
        go_wp2_with fail
        go_at_call 55
        refine code23_any _ _ ?_
        go_wp2_with fail
        go_at_call 57
        refine live23_any _ ?_
        intro w99 hg99
        have HG99 := Lib.hid hg99
        clear hg99
        go_wp2
        exact HR.out _ (((GV.out.tr HV7.out)).tr HG99.out)
end Go.Proofs.Ythgibnmnjoniiaa
