/-
  ValueOrders, walked.
-/
import Derived.Test.YtehffeglgdcogaaDoorChecked
import Derived.Test.YtehffeglgdcogaaDoorVLive
namespace Go.Proofs.YtehffeglgdcogaaDoor
open Go.RowKit B

theorem orL_small {a b c : Int} (ha : -1 ≤ a ∧ a ≤ 1) (hb : -1 ≤ b ∧ b ≤ 1) (hc : -1 ≤ c ∧ c ≤ 1) : -1 ≤ orL [a, b, c] ∧ orL [a, b, c] ≤ 1 := by
  simp only [orL]
  split
  · exact ha
  · split
    · exact hb
    · split
      · exact hc
      · omega
theorem cmpI_small (a b : Int) : -1 ≤ cmpI' a b ∧ cmpI' a b ≤ 1 := by unfold cmpI'; split <;> (try split) <;> omega
theorem order_small (x y : Val) : -1 ≤ orderV x y ∧ orderV x y ≤ 1 := by
  unfold orderV
  refine orL_small (cmpI_small _ _) ?_ (cmpI_small _ _)
  rcases cmpB_vals (plainV x).t.data.toList (plainV y).t.data.toList with h | h | h <;> omega

set_option maxRecDepth 100000 in
set_option maxHeartbeats 16000000 in
theorem valueOrders_walk (u v z : Val) (hu : u.t.size ≤ 9223372036854775807) (hv : v.t.size ≤ 9223372036854775807) (hz : z.t.size ≤ 9223372036854775807) (w : World) (hT : Tabs w) {R : Ending → World → Prop} (hR : ∀ w', Grow w w' → R (.returned (.bool true)) w') :
    Calls Tryd.prog 3 #[u.v, v.v, z.v] w R := by
  have HR := Lib.hid hR
  have HT := Lib.hid hT
  have LV := Lib.hid fun W (h : Tabs W) (R : Ending → World → Prop) hR => live8_any W h (R := R) hR
  have SM := Lib.hid fun W (R : Ending → World → Prop) hR => same_any u v W (R := R) hR
  have RS := Lib.hid fun W (R : Ending → World → Prop) hR => rsame_any u v W (R := R) hR
  have OUV := Lib.hid fun W (R : Ending → World → Prop) hR => order_any u v W (R := R) hR
  have OVZ := Lib.hid fun W (R : Ending → World → Prop) hR => order_any v z W (R := R) hR
  have OUZ := Lib.hid fun W (R : Ending → World → Prop) hR => order_any u z W (R := R) hR
  have OVU := Lib.hid fun W (R : Ending → World → Prop) hR => order_any v u W (R := R) hR
  have RUV := Lib.hid fun W (R : Ending → World → Prop) hR => rorder_any u v hu hv W (R := R) hR
  rw [order_same] at RUV
  rw [order_neg u v] at OVU
  have gs := order_goes u v z
  have sm := order_small u v
  generalize orderV u v = m1 at *
  generalize orderV v z = m2 at *
  generalize orderV u z = m3 at *
  generalize decide (plainV u = plainV v) = sb at *
  have ew : IntKind.i64.wrap (-m1) = -m1 := IntWalk.i64_in _ (by omega)
  have GS := Lib.hid gs
  clear gs hT hR
  obtain ⟨k1, s1, b1⟩ := u
  obtain ⟨k2, s2, b2⟩ := v
  obtain ⟨k3, s3, b3⟩ := z
  unfold Val.v at *
  dsimp only at *
  obtain ⟨wa, hwa⟩ : ∃ wa, wa = ((w.alloc (.cells #[.int .i64 k1, .string s1, .int .u64 b1] 24)).alloc (.cells #[.int .i64 k2, .string s2, .int .u64 b2] 24)).alloc (.cells #[.int .i64 k3, .string s3, .int .u64 b3] 24) := ⟨_, rfl⟩
  have BU : Hid (BoxH w w.heap.size #[.int .i64 k1, .string s1, .int .u64 b1] 24 wa) := by
    rw [hwa]
    exact ((BoxH.laid #[.int .i64 k1, .string s1, .int .u64 b1] 24 (Grow.refl w)).tr ((Grow.refl _).al _)).tr ((Grow.refl _).al _)
  have BV : Hid (BoxH w (w.heap.size + 1) #[.int .i64 k2, .string s2, .int .u64 b2] 24 wa) := by
    have := (BoxH.laid (w := w.alloc (.cells #[.int .i64 k1, .string s1, .int .u64 b1] 24)) #[.int .i64 k2, .string s2, .int .u64 b2] 24 ((Grow.refl w).al _)).tr ((Grow.refl _).al (.cells #[.int .i64 k3, .string s3, .int .u64 b3] 24))
    rw [World.size_alloc] at this
    rw [hwa]
    exact this
  have BW : Hid (BoxH w (w.heap.size + 2) #[.int .i64 k3, .string s3, .int .u64 b3] 24 wa) := by
    have := BoxH.laid (w := (w.alloc (.cells #[.int .i64 k1, .string s1, .int .u64 b1] 24)).alloc (.cells #[.int .i64 k2, .string s2, .int .u64 b2] 24)) #[.int .i64 k3, .string s3, .int .u64 b3] 24 (((Grow.refl w).al _).al _)
    rw [World.size_alloc, World.size_alloc] at this
    rw [hwa]
    exact this
  have HWA := Lib.hid hwa
  clear hwa
  obtain ⟨q1, hq1⟩ : ∃ q, decide ((500 : Int) < wrap64 ((s1.size : Int) + (s2.size : Int))) = q := ⟨_, rfl⟩
  obtain ⟨q2, hq2⟩ : ∃ q, decide ((500 : Int) < (s3.size : Int)) = q := ⟨_, rfl⟩
  go_enter Tryd.func3, Tryd.ntmps3
  go_upto_region 1 with fail
  rw [← HWA.out]
  rw [show w.heap.size + 1 + 1 = w.heap.size + 2 from rfl]
  have x0 := BU.out.cell 0
  have x1 := BU.out.cell 1
  have x2 := BU.out.cell 2
  have y0 := BV.out.cell 0
  have y1 := BV.out.cell 1
  have y2 := BV.out.cell 2
  have z0 := BW.out.cell 0
  have z1 := BW.out.cell 1
  have z2 := BW.out.cell 2
  cases q1 with
  | true =>
    go_wp2_with fail
    go_at_call 6
    refine LV.out _ (HT.out.gr BU.out.grow) _ ?_
    intro w9 hg9
    have G9 := Lib.hid (BU.out.grow.tr hg9)
    clear hg9
    go_wp2
    exact HR.out _ G9.out
  | false =>
    cases q2 with
    | true =>
      go_wp2_with fail
      go_at_call 6
      refine LV.out _ (HT.out.gr BU.out.grow) _ ?_
      intro w9 hg9
      have G9 := Lib.hid (BU.out.grow.tr hg9)
      clear hg9
      go_wp2
      exact HR.out _ G9.out
    | false =>
      go_wp2_with fail
      clear hq1 hq2
      go_at_call 7
      refine OUV.out _ _ ?_
      intro w2 hg2
      have BU := Lib.hid (BU.out.tr hg2)
      have BV := Lib.hid (BV.out.tr hg2)
      have BW := Lib.hid (BW.out.tr hg2)
      clear hg2 x0 x1 x2 y0 y1 y2 z0 z1 z2
      have x0 := BU.out.cell 0
      have x1 := BU.out.cell 1
      have x2 := BU.out.cell 2
      have y0 := BV.out.cell 0
      have y1 := BV.out.cell 1
      have y2 := BV.out.cell 2
      have z0 := BW.out.cell 0
      have z1 := BW.out.cell 1
      have z2 := BW.out.cell 2
      by_cases g1 : 0 < m1
      · have t1 : decide (0 < m1) = true := decide_eq_true g1
        clear g1
        go_wp2_with fail
        clear t1
        clear x0 x1 x2 y0 y1 y2 z0 z1 z2
        refine wp_region_lexT (fun W => BoxH w w.heap.size #[.int .i64 k1, .string s1, .int .u64 b1] 24 W ∧ BoxH w (w.heap.size + 1) #[.int .i64 k2, .string s2, .int .u64 b2] 24 W) (⟨BU.out.tr (Grow.refl _).dr, BV.out.tr (Grow.refl _).dr⟩) 22 [0, 1, 3, 4, 2, 5, 6, 7, 8, 9, 11, 12, 10, 13, 14, 15, 16, 17, 18, 20, 21, 19] (by kernel_rfl) (by kernel_rfl) (by intro c a d v w h; cases d <;> exact h) ?_
        iterate 4 (apply lext_take; exact rfl; exact rfl; (intro W hW; have u0 := hW.1.cell 0; have u1 := hW.1.cell 1; have u2 := hW.1.cell 2; have v0 := hW.2.cell 0; have v1 := hW.2.cell 1; have v2 := hW.2.cell 2; (try clear hW); go_simp; with_reducible rfl); try simp only [Act.put, List.setIfInBounds_toArray, List.set_cons_zero, List.set_cons_succ])
        have BU := Lib.hid (BU.out.tr (Grow.refl _).dr)
        have BV := Lib.hid (BV.out.tr (Grow.refl _).dr)
        apply lext_turn; exact rfl; exact rfl; exact rfl; intro K hK; go_simp; go_at_call 8; refine SM.out _ _ ?_
        intro w2 hg2
        have BU := Lib.hid (BU.out.tr hg2)
        have BV := Lib.hid (BV.out.tr hg2)
        refine hK.out _ _ ⟨BU.out, BV.out⟩ ?_
        clear hK hg2
        try simp only [Act.put, List.setIfInBounds_toArray, List.set_cons_zero, List.set_cons_succ]
        apply lext_turn; exact rfl; exact rfl; exact rfl; intro K hK; go_simp; go_at_call 9; refine RS.out _ _ ?_
        intro w2 hg2
        have BU := Lib.hid (BU.out.tr hg2)
        have BV := Lib.hid (BV.out.tr hg2)
        refine hK.out _ _ ⟨BU.out, BV.out⟩ ?_
        clear hK hg2
        try simp only [Act.put, List.setIfInBounds_toArray, List.set_cons_zero, List.set_cons_succ]
        iterate 6 (apply lext_take; exact rfl; exact rfl; (intro W hW; have u0 := hW.1.cell 0; have u1 := hW.1.cell 1; have u2 := hW.1.cell 2; have v0 := hW.2.cell 0; have v1 := hW.2.cell 1; have v2 := hW.2.cell 2; (try clear hW); go_simp; with_reducible rfl); try simp only [Act.put, List.setIfInBounds_toArray, List.set_cons_zero, List.set_cons_succ])
        apply lext_turn; exact rfl; exact rfl; exact rfl; intro K hK; go_simp; go_at_call 7; refine OUV.out _ _ ?_
        intro w2 hg2
        have BU := Lib.hid (BU.out.tr hg2)
        have BV := Lib.hid (BV.out.tr hg2)
        refine hK.out _ _ ⟨BU.out, BV.out⟩ ?_
        clear hK hg2
        try simp only [Act.put, List.setIfInBounds_toArray, List.set_cons_zero, List.set_cons_succ]
        apply lext_turn; exact rfl; exact rfl; exact rfl; intro K hK; go_simp; go_at_call 10; refine RUV.out _ _ ?_
        intro w2 hg2
        have BU := Lib.hid (BU.out.tr hg2)
        have BV := Lib.hid (BV.out.tr hg2)
        refine hK.out _ _ ⟨BU.out, BV.out⟩ ?_
        clear hK hg2
        try simp only [Act.put, List.setIfInBounds_toArray, List.set_cons_zero, List.set_cons_succ]
        iterate 7 (apply lext_take; exact rfl; exact rfl; (intro W hW; have u0 := hW.1.cell 0; have u1 := hW.1.cell 1; have u2 := hW.1.cell 2; have v0 := hW.2.cell 0; have v1 := hW.2.cell 1; have v2 := hW.2.cell 2; (try clear hW); go_simp; with_reducible rfl); try simp only [Act.put, List.setIfInBounds_toArray, List.set_cons_zero, List.set_cons_succ])
        apply lext_turn; exact rfl; exact rfl; exact rfl; intro K hK; go_simp; go_at_call 7; refine OVU.out _ _ ?_
        intro w2 hg2
        have BU := Lib.hid (BU.out.tr hg2)
        have BV := Lib.hid (BV.out.tr hg2)
        refine hK.out _ _ ⟨BU.out, BV.out⟩ ?_
        clear hK hg2
        try simp only [Act.put, List.setIfInBounds_toArray, List.set_cons_zero, List.set_cons_succ]
        refine lext_nil ?_
        simp only [List.drop_succ_cons, List.drop_zero]
        go_wp2_with fail
        go_at_call 10
        refine RUV.out _ _ ?_
        intro w2 hg2
        have BU := Lib.hid (BU.out.tr hg2)
        clear hg2
        go_wp2_with fail
        go_at_call 6
        refine LV.out _ (HT.out.gr BU.out.grow) _ ?_
        intro w9 hg9
        have G9 := Lib.hid (BU.out.grow.tr hg9)
        clear hg9
        go_wp2
        exact HR.out _ G9.out
      · have t1 : decide (0 < m1) = false := decide_eq_false g1
        go_wp2_with fail
        go_at_call 7
        refine OVZ.out _ _ ?_
        intro w2 hg2
        have BU := Lib.hid (BU.out.tr hg2)
        have BV := Lib.hid (BV.out.tr hg2)
        have BW := Lib.hid (BW.out.tr hg2)
        clear hg2 x0 x1 x2 y0 y1 y2 z0 z1 z2
        have x0 := BU.out.cell 0
        have x1 := BU.out.cell 1
        have x2 := BU.out.cell 2
        have y0 := BV.out.cell 0
        have y1 := BV.out.cell 1
        have y2 := BV.out.cell 2
        have z0 := BW.out.cell 0
        have z1 := BW.out.cell 1
        have z2 := BW.out.cell 2
        by_cases g2 : 0 < m2
        · have t2 : decide (0 < m2) = true := decide_eq_true g2
          clear g1 g2
          go_wp2_with fail
          clear t1 t2
          clear x0 x1 x2 y0 y1 y2 z0 z1 z2
          refine wp_region_lexT (fun W => BoxH w w.heap.size #[.int .i64 k1, .string s1, .int .u64 b1] 24 W ∧ BoxH w (w.heap.size + 1) #[.int .i64 k2, .string s2, .int .u64 b2] 24 W) (⟨BU.out.tr (Grow.refl _).dr, BV.out.tr (Grow.refl _).dr⟩) 22 [0, 1, 3, 4, 2, 5, 6, 7, 8, 9, 11, 12, 10, 13, 14, 15, 16, 17, 18, 20, 21, 19] (by kernel_rfl) (by kernel_rfl) (by intro c a d v w h; cases d <;> exact h) ?_
          iterate 4 (apply lext_take; exact rfl; exact rfl; (intro W hW; have u0 := hW.1.cell 0; have u1 := hW.1.cell 1; have u2 := hW.1.cell 2; have v0 := hW.2.cell 0; have v1 := hW.2.cell 1; have v2 := hW.2.cell 2; (try clear hW); go_simp; with_reducible rfl); try simp only [Act.put, List.setIfInBounds_toArray, List.set_cons_zero, List.set_cons_succ])
          have BU := Lib.hid (BU.out.tr (Grow.refl _).dr)
          have BV := Lib.hid (BV.out.tr (Grow.refl _).dr)
          apply lext_turn; exact rfl; exact rfl; exact rfl; intro K hK; go_simp; go_at_call 8; refine SM.out _ _ ?_
          intro w2 hg2
          have BU := Lib.hid (BU.out.tr hg2)
          have BV := Lib.hid (BV.out.tr hg2)
          refine hK.out _ _ ⟨BU.out, BV.out⟩ ?_
          clear hK hg2
          try simp only [Act.put, List.setIfInBounds_toArray, List.set_cons_zero, List.set_cons_succ]
          apply lext_turn; exact rfl; exact rfl; exact rfl; intro K hK; go_simp; go_at_call 9; refine RS.out _ _ ?_
          intro w2 hg2
          have BU := Lib.hid (BU.out.tr hg2)
          have BV := Lib.hid (BV.out.tr hg2)
          refine hK.out _ _ ⟨BU.out, BV.out⟩ ?_
          clear hK hg2
          try simp only [Act.put, List.setIfInBounds_toArray, List.set_cons_zero, List.set_cons_succ]
          iterate 6 (apply lext_take; exact rfl; exact rfl; (intro W hW; have u0 := hW.1.cell 0; have u1 := hW.1.cell 1; have u2 := hW.1.cell 2; have v0 := hW.2.cell 0; have v1 := hW.2.cell 1; have v2 := hW.2.cell 2; (try clear hW); go_simp; with_reducible rfl); try simp only [Act.put, List.setIfInBounds_toArray, List.set_cons_zero, List.set_cons_succ])
          apply lext_turn; exact rfl; exact rfl; exact rfl; intro K hK; go_simp; go_at_call 7; refine OUV.out _ _ ?_
          intro w2 hg2
          have BU := Lib.hid (BU.out.tr hg2)
          have BV := Lib.hid (BV.out.tr hg2)
          refine hK.out _ _ ⟨BU.out, BV.out⟩ ?_
          clear hK hg2
          try simp only [Act.put, List.setIfInBounds_toArray, List.set_cons_zero, List.set_cons_succ]
          apply lext_turn; exact rfl; exact rfl; exact rfl; intro K hK; go_simp; go_at_call 10; refine RUV.out _ _ ?_
          intro w2 hg2
          have BU := Lib.hid (BU.out.tr hg2)
          have BV := Lib.hid (BV.out.tr hg2)
          refine hK.out _ _ ⟨BU.out, BV.out⟩ ?_
          clear hK hg2
          try simp only [Act.put, List.setIfInBounds_toArray, List.set_cons_zero, List.set_cons_succ]
          iterate 7 (apply lext_take; exact rfl; exact rfl; (intro W hW; have u0 := hW.1.cell 0; have u1 := hW.1.cell 1; have u2 := hW.1.cell 2; have v0 := hW.2.cell 0; have v1 := hW.2.cell 1; have v2 := hW.2.cell 2; (try clear hW); go_simp; with_reducible rfl); try simp only [Act.put, List.setIfInBounds_toArray, List.set_cons_zero, List.set_cons_succ])
          apply lext_turn; exact rfl; exact rfl; exact rfl; intro K hK; go_simp; go_at_call 7; refine OVU.out _ _ ?_
          intro w2 hg2
          have BU := Lib.hid (BU.out.tr hg2)
          have BV := Lib.hid (BV.out.tr hg2)
          refine hK.out _ _ ⟨BU.out, BV.out⟩ ?_
          clear hK hg2
          try simp only [Act.put, List.setIfInBounds_toArray, List.set_cons_zero, List.set_cons_succ]
          refine lext_nil ?_
          simp only [List.drop_succ_cons, List.drop_zero]
          go_wp2_with fail
          go_at_call 10
          refine RUV.out _ _ ?_
          intro w2 hg2
          have BU := Lib.hid (BU.out.tr hg2)
          clear hg2
          go_wp2_with fail
          go_at_call 6
          refine LV.out _ (HT.out.gr BU.out.grow) _ ?_
          intro w9 hg9
          have G9 := Lib.hid (BU.out.grow.tr hg9)
          clear hg9
          go_wp2
          exact HR.out _ G9.out
        · have t2 : decide (0 < m2) = false := decide_eq_false g2
          go_wp2_with fail
          go_at_call 7
          refine OUZ.out _ _ ?_
          intro w2 hg2
          have BU := Lib.hid (BU.out.tr hg2)
          have BV := Lib.hid (BV.out.tr hg2)
          have BW := Lib.hid (BW.out.tr hg2)
          clear hg2 x0 x1 x2 y0 y1 y2 z0 z1 z2
          have x0 := BU.out.cell 0
          have x1 := BU.out.cell 1
          have x2 := BU.out.cell 2
          have y0 := BV.out.cell 0
          have y1 := BV.out.cell 1
          have y2 := BV.out.cell 2
          have z0 := BW.out.cell 0
          have z1 := BW.out.cell 1
          have z2 := BW.out.cell 2
          have t3 : decide (m3 ≤ 0) = true := decide_eq_true (by have := GS.out; omega)
          clear g1 g2
          go_wp2_with fail
          clear t1 t2 t3
          clear x0 x1 x2 y0 y1 y2 z0 z1 z2
          refine wp_region_lexT (fun W => BoxH w w.heap.size #[.int .i64 k1, .string s1, .int .u64 b1] 24 W ∧ BoxH w (w.heap.size + 1) #[.int .i64 k2, .string s2, .int .u64 b2] 24 W) (⟨BU.out.tr (Grow.refl _).dr, BV.out.tr (Grow.refl _).dr⟩) 22 [0, 1, 3, 4, 2, 5, 6, 7, 8, 9, 11, 12, 10, 13, 14, 15, 16, 17, 18, 20, 21, 19] (by kernel_rfl) (by kernel_rfl) (by intro c a d v w h; cases d <;> exact h) ?_
          iterate 4 (apply lext_take; exact rfl; exact rfl; (intro W hW; have u0 := hW.1.cell 0; have u1 := hW.1.cell 1; have u2 := hW.1.cell 2; have v0 := hW.2.cell 0; have v1 := hW.2.cell 1; have v2 := hW.2.cell 2; (try clear hW); go_simp; with_reducible rfl); try simp only [Act.put, List.setIfInBounds_toArray, List.set_cons_zero, List.set_cons_succ])
          have BU := Lib.hid (BU.out.tr (Grow.refl _).dr)
          have BV := Lib.hid (BV.out.tr (Grow.refl _).dr)
          apply lext_turn; exact rfl; exact rfl; exact rfl; intro K hK; go_simp; go_at_call 8; refine SM.out _ _ ?_
          intro w2 hg2
          have BU := Lib.hid (BU.out.tr hg2)
          have BV := Lib.hid (BV.out.tr hg2)
          refine hK.out _ _ ⟨BU.out, BV.out⟩ ?_
          clear hK hg2
          try simp only [Act.put, List.setIfInBounds_toArray, List.set_cons_zero, List.set_cons_succ]
          apply lext_turn; exact rfl; exact rfl; exact rfl; intro K hK; go_simp; go_at_call 9; refine RS.out _ _ ?_
          intro w2 hg2
          have BU := Lib.hid (BU.out.tr hg2)
          have BV := Lib.hid (BV.out.tr hg2)
          refine hK.out _ _ ⟨BU.out, BV.out⟩ ?_
          clear hK hg2
          try simp only [Act.put, List.setIfInBounds_toArray, List.set_cons_zero, List.set_cons_succ]
          iterate 6 (apply lext_take; exact rfl; exact rfl; (intro W hW; have u0 := hW.1.cell 0; have u1 := hW.1.cell 1; have u2 := hW.1.cell 2; have v0 := hW.2.cell 0; have v1 := hW.2.cell 1; have v2 := hW.2.cell 2; (try clear hW); go_simp; with_reducible rfl); try simp only [Act.put, List.setIfInBounds_toArray, List.set_cons_zero, List.set_cons_succ])
          apply lext_turn; exact rfl; exact rfl; exact rfl; intro K hK; go_simp; go_at_call 7; refine OUV.out _ _ ?_
          intro w2 hg2
          have BU := Lib.hid (BU.out.tr hg2)
          have BV := Lib.hid (BV.out.tr hg2)
          refine hK.out _ _ ⟨BU.out, BV.out⟩ ?_
          clear hK hg2
          try simp only [Act.put, List.setIfInBounds_toArray, List.set_cons_zero, List.set_cons_succ]
          apply lext_turn; exact rfl; exact rfl; exact rfl; intro K hK; go_simp; go_at_call 10; refine RUV.out _ _ ?_
          intro w2 hg2
          have BU := Lib.hid (BU.out.tr hg2)
          have BV := Lib.hid (BV.out.tr hg2)
          refine hK.out _ _ ⟨BU.out, BV.out⟩ ?_
          clear hK hg2
          try simp only [Act.put, List.setIfInBounds_toArray, List.set_cons_zero, List.set_cons_succ]
          iterate 7 (apply lext_take; exact rfl; exact rfl; (intro W hW; have u0 := hW.1.cell 0; have u1 := hW.1.cell 1; have u2 := hW.1.cell 2; have v0 := hW.2.cell 0; have v1 := hW.2.cell 1; have v2 := hW.2.cell 2; (try clear hW); go_simp; with_reducible rfl); try simp only [Act.put, List.setIfInBounds_toArray, List.set_cons_zero, List.set_cons_succ])
          apply lext_turn; exact rfl; exact rfl; exact rfl; intro K hK; go_simp; go_at_call 7; refine OVU.out _ _ ?_
          intro w2 hg2
          have BU := Lib.hid (BU.out.tr hg2)
          have BV := Lib.hid (BV.out.tr hg2)
          refine hK.out _ _ ⟨BU.out, BV.out⟩ ?_
          clear hK hg2
          try simp only [Act.put, List.setIfInBounds_toArray, List.set_cons_zero, List.set_cons_succ]
          refine lext_nil ?_
          simp only [List.drop_succ_cons, List.drop_zero]
          go_wp2_with fail
          go_at_call 10
          refine RUV.out _ _ ?_
          intro w2 hg2
          have BU := Lib.hid (BU.out.tr hg2)
          clear hg2
          go_wp2_with fail
          go_at_call 6
          refine LV.out _ (HT.out.gr BU.out.grow) _ ?_
          intro w9 hg9
          have G9 := Lib.hid (BU.out.grow.tr hg9)
          clear hg9
          go_wp2
          exact HR.out _ G9.out
end Go.Proofs.YtehffeglgdcogaaDoor
