/-
  Rings clipped at a window: where an edge crosses a border.
-/
import Derived.Test.YtjcgkhcbdbbdkaaChecked
import Derived.Test.YtjcgkhcbdbbdkaaRng
import Derived.Test.YtjcgkhcbdbbdkaaCore
namespace Go.Proofs.Ytjcgkhcbdbbdkaa
open Go.RowKit Go.Lib B

set_option maxRecDepth 100000 in
set_option maxHeartbeats 400000 in
theorem ncross_any (h : Hf) (n : Node) (w : World) {R : Ending → World → Prop} (hR : ∀ w', Grow w w' → R (.returned (.agg (h.cross n).cells.toArray)) w') :
    Calls Try.prog 81 #[.agg h.cells.toArray, .agg n.cells.toArray] w R := by
  have HR : ∀ s, h.cross n = s → ∀ w', Grow w w' → R (.returned (.agg s.cells.toArray)) w' := by rintro b rfl; exact hR
  have HR := Lib.hid HR
  clear hR
  have CR := Lib.hid fun W (R : Ending → World → Prop) hR => cross_any n.p n.q h.c h.up W (R := R) hR
  have OF := Lib.hid fun W (R : Ending → World → Prop) hR => of23_any h.c W (R := R) hR
  have HV : Hid (h.cross n = if h.up = true then ⟨if n.pl = true then n.s.x else (crossS n.p n.q h.c h.up).1, ⟨h.c, 0, 1⟩⟩ else ⟨⟨h.c, 0, 1⟩, if n.pl = true then n.s.y else (crossS n.p n.q h.c h.up).1⟩) := rfl
  obtain ⟨cs, ce, hcs⟩ : ∃ f e, crossS n.p n.q h.c h.up = (f, e) := ⟨_, _, rfl⟩
  rw [hcs] at CR HV
  clear hcs
  obtain ⟨c, up, ab⟩ := h
  obtain ⟨⟨⟨q1, r1, d1⟩, ⟨q2, r2, d2⟩⟩, ⟨px, py⟩, ⟨qx, qy⟩, pl⟩ := n
  obtain ⟨q3, r3, d3⟩ := cs
  unfold Pt.cells at CR
  unfold Hf.cells Node.cells
  dsimp only at CR OF HV ⊢
  obtain ⟨wa, hwa⟩ : ∃ wa, wa = ((w.alloc (.cells #[.int .i64 c, .bool up, .bool ab] 101)).alloc (.cells #[.int .i64 q1, .int .u64 (r1 : Nat), .int .u64 (d1 : Nat), .int .i64 q2, .int .u64 (r2 : Nat), .int .u64 (d2 : Nat), .int .i64 px, .int .i64 py, .int .i64 qx, .int .i64 qy, .bool pl] 99)).alloc (.cells #[.int .i64 0, .int .u64 0, .int .u64 0, .int .i64 0, .int .u64 0, .int .u64 0] 28) := ⟨_, rfl⟩
  have BH : Hid (BoxH w w.heap.size #[.int .i64 c, .bool up, .bool ab] 101 wa) := by
    rw [hwa]
    exact ((BoxH.laid #[.int .i64 c, .bool up, .bool ab] 101 (Grow.refl w)).tr ((Grow.refl _).al _)).tr ((Grow.refl _).al _)
  have BN : Hid (BoxH w (w.heap.size + 1) #[.int .i64 q1, .int .u64 (r1 : Nat), .int .u64 (d1 : Nat), .int .i64 q2, .int .u64 (r2 : Nat), .int .u64 (d2 : Nat), .int .i64 px, .int .i64 py, .int .i64 qx, .int .i64 qy, .bool pl] 99 wa) := by
    have := (BoxH.laid (w := w.alloc (.cells #[.int .i64 c, .bool up, .bool ab] 101)) #[.int .i64 q1, .int .u64 (r1 : Nat), .int .u64 (d1 : Nat), .int .i64 q2, .int .u64 (r2 : Nat), .int .u64 (d2 : Nat), .int .i64 px, .int .i64 py, .int .i64 qx, .int .i64 qy, .bool pl] 99 ((Grow.refl w).al _)).tr ((Grow.refl _).al (.cells #[.int .i64 0, .int .u64 0, .int .u64 0, .int .i64 0, .int .u64 0, .int .u64 0] 28))
    rw [World.size_alloc] at this
    rw [hwa]
    exact this
  have BR : Hid (BoxH w (w.heap.size + 1 + 1) #[.int .i64 0, .int .u64 0, .int .u64 0, .int .i64 0, .int .u64 0, .int .u64 0] 28 wa) := by
    have := BoxH.laid (w := (w.alloc (.cells #[.int .i64 c, .bool up, .bool ab] 101)).alloc (.cells #[.int .i64 q1, .int .u64 (r1 : Nat), .int .u64 (d1 : Nat), .int .i64 q2, .int .u64 (r2 : Nat), .int .u64 (d2 : Nat), .int .i64 px, .int .i64 py, .int .i64 qx, .int .i64 qy, .bool pl] 99)) #[.int .i64 0, .int .u64 0, .int .u64 0, .int .i64 0, .int .u64 0, .int .u64 0] 28 (((Grow.refl w).al _).al _)
    rw [World.size_alloc, World.size_alloc] at this
    rw [hwa]
    exact this
  have HWA := Lib.hid hwa
  clear hwa
  have s3 := BN.out.cell 3
  have s4 := BN.out.cell 4
  have s5 := BN.out.cell 5
  go_enter Try.func81, Try.ntmps81
  go_upto_region 1 with fail
  rw [← HWA.out]
  clear HWA
  go_upto_region 2 with fail
  have FN := Lib.hid BR.out.lt
  have BF := Lib.hid (BoxH.laid #[.int .i64 q2, .int .u64 (r2 : Nat), .int .u64 (d2 : Nat)] 26 BR.out.grow)
  have BH := Lib.hid (BH.out.tr ((Grow.refl _).al (.cells #[.int .i64 q2, .int .u64 (r2 : Nat), .int .u64 (d2 : Nat)] 26)))
  have BN := Lib.hid (BN.out.tr ((Grow.refl _).al (.cells #[.int .i64 q2, .int .u64 (r2 : Nat), .int .u64 (d2 : Nat)] 26)))
  have BR := Lib.hid (BR.out.tr ((Grow.refl _).al (.cells #[.int .i64 q2, .int .u64 (r2 : Nat), .int .u64 (d2 : Nat)] 26)))
  clear s3 s4 s5
  generalize wa.alloc (.cells #[.int .i64 q2, .int .u64 (r2 : Nat), .int .u64 (d2 : Nat)] 26) = wb at *
  generalize wa.heap.size = fb at *
  have n1 : w.heap.size ≠ fb := by have := FN.out; omega
  have n2 : w.heap.size + 1 ≠ fb := by have := FN.out; omega
  have n3 : w.heap.size + 1 + 1 ≠ fb := by have := FN.out; omega
  have h0 := BH.out.cell 0
  have h1 := BH.out.cell 1
  cases up with
  | false =>
    have p0 := BN.out.cell 10
    have f0 := BF.out.cell 0
    have f1 := BF.out.cell 1
    have f2 := BF.out.cell 2
    cases pl with
    | true =>
      go_upto_region 6 with fail
      clear p0 f0 f1 f2
      go_wp2_with fail
      clear h1
      refine wp_region_lexT (fun W => BoxH w w.heap.size #[.int .i64 c, .bool false, .bool ab] 101 W ∧ BoxH w fb #[.int .i64 q2, .int .u64 (r2 : Nat), .int .u64 (d2 : Nat)] 26 W ∧ BoxH w (w.heap.size + 1 + 1) #[.int .i64 0, .int .u64 0, .int .u64 0, .int .i64 0, .int .u64 0, .int .u64 0] 28 W) (⟨BH.out.tr (Grow.refl _).dr, BF.out.tr (Grow.refl _).dr, BR.out.tr (Grow.refl _).dr⟩) 4 [0, 1, 3, 2] (by kernel_rfl) (by kernel_rfl) (by intro c a d v w h; cases d <;> exact h) ?_
      iterate 3 (apply lext_take; exact rfl; exact rfl; (intro W hW; have z0 := hW.1.cell 0; have z1 := hW.2.1.cell 0; have z2 := hW.2.1.cell 1; have z3 := hW.2.1.cell 2; (try clear hW); go_simp; with_reducible rfl); try simp only [Act.put, List.setIfInBounds_toArray, List.set_cons_zero, List.set_cons_succ])
      have BF := Lib.hid (BF.out.tr (Grow.refl _).dr)
      have BH := Lib.hid (BH.out.tr (Grow.refl _).dr)
      have BR := Lib.hid (BR.out.tr (Grow.refl _).dr)
      apply lext_turn; exact rfl; exact rfl; exact rfl; intro K hK; go_simp; go_at_call 50; refine OF.out _ _ ?_; intro w5 hg5
      have BF := Lib.hid (BF.out.tr hg5)
      have BH := Lib.hid (BH.out.tr hg5)
      have BR := Lib.hid (BR.out.tr hg5)
      refine hK.out _ _ ⟨BH.out, BF.out, BR.out⟩ ?_
      clear hK hg5 h0
      try simp only [Act.put, List.setIfInBounds_toArray, List.set_cons_zero, List.set_cons_succ]
      refine lext_nil ?_
      simp only [List.drop_succ_cons, List.drop_zero]
      have z0 := BR.out.cell 0
      have g0 := BR.out.free 0
      have B1 := Lib.hid (BR.out.set 0 (.int .i64 c))
      have z1 := B1.out.cell 1
      have g1 := B1.out.free 1
      have B2 := Lib.hid (B1.out.set 1 (.int .u64 0))
      have z2 := B2.out.cell 2
      have g2 := B2.out.free 2
      have B3 := Lib.hid (B2.out.set 2 (.int .u64 1))
      have z3 := B3.out.cell 3
      have g3 := B3.out.free 3
      have B4 := Lib.hid (B3.out.set 3 (.int .i64 q2))
      have z4 := B4.out.cell 4
      have g4 := B4.out.free 4
      have B5 := Lib.hid (B4.out.set 4 (.int .u64 (r2 : Nat)))
      have z5 := B5.out.cell 5
      have g5 := B5.out.free 5
      have B6 := Lib.hid (B5.out.set 5 (.int .u64 (d2 : Nat)))
      go_wp2
      have k0 := B6.out.cell 0
      have k1 := B6.out.cell 1
      have k2 := B6.out.cell 2
      have k3 := B6.out.cell 3
      have k4 := B6.out.cell 4
      have k5 := B6.out.cell 5
      refine bodyPost_ret (v := .agg #[.int .i64 c, (.int .u64 0), (.int .u64 1), .int .i64 q2, (.int .u64 (r2 : Nat)), (.int .u64 (d2 : Nat))]) (by simp only [List.setIfInBounds_toArray, List.set_cons_zero, List.set_cons_succ] at k0 k1 k2 k3 k4 k5; simp [results, Try.f81, go_sem, k0, k1, k2, k3, k4, k5]) rfl ?_
      exact HR.out ⟨⟨c, 0, 1⟩, ⟨q2, r2, d2⟩⟩ HV.out _ B6.out.grow
    | false =>
      have c6 := BN.out.cell 6
      have c7 := BN.out.cell 7
      have c8 := BN.out.cell 8
      have c9 := BN.out.cell 9
      go_upto_region 5 with fail
      go_wp2_with fail
      clear p0 f0 f1 f2 c6 c7 c8 c9 h0 h1
      go_at_call 73
      refine CR.out _ _ ?_
      intro w1 f e hfe hg1
      obtain ⟨rfl, rfl⟩ := Prod.mk.inj hfe
      have BH := Lib.hid (BH.out.tr hg1)
      have BF := Lib.hid (BF.out.tr hg1)
      have BR := Lib.hid (BR.out.tr hg1)
      clear hg1 hfe
      unfold Fr.cells
      dsimp only
      have g0 := BF.out.free 0
      have f0 := BF.out.cell 0
      have g1 := (BF.out.set 0 (.int .i64 q3)).free 1
      have f1 := (BF.out.set 0 (.int .i64 q3)).cell 1
      have g2 := ((BF.out.set 0 (.int .i64 q3)).set 1 (.int .u64 (r3 : Nat))).free 2
      have f2 := ((BF.out.set 0 (.int .i64 q3)).set 1 (.int .u64 (r3 : Nat))).cell 2
      have BF3 := Lib.hid (((BF.out.set 0 (.int .i64 q3)).set 1 (.int .u64 (r3 : Nat))).set 2 (.int .u64 (d3 : Nat)))
      have BH3 : Hid (BoxH w w.heap.size #[.int .i64 c, .bool false, .bool ab] 101 (((w1.setCell ⟨fb, 0, none⟩ (.int .i64 q3)).setCell ⟨fb, 1, none⟩ (.int .u64 (r3 : Nat))).setCell ⟨fb, 2, none⟩ (.int .u64 (d3 : Nat)))) := ((BH.out.other n1 BF.out.2.1).other n1 BF.out.2.1).other n1 BF.out.2.1
      have BR3 : Hid (BoxH w (w.heap.size + 1 + 1) #[.int .i64 0, .int .u64 0, .int .u64 0, .int .i64 0, .int .u64 0, .int .u64 0] 28 (((w1.setCell ⟨fb, 0, none⟩ (.int .i64 q3)).setCell ⟨fb, 1, none⟩ (.int .u64 (r3 : Nat))).setCell ⟨fb, 2, none⟩ (.int .u64 (d3 : Nat)))) := ((BR.out.other n3 BF.out.2.1).other n3 BF.out.2.1).other n3 BF.out.2.1
      clear BF BH BR
      have BF := Lib.hid BF3.out
      have BH := Lib.hid BH3.out
      have BR := Lib.hid BR3.out
      clear BF3 BH3 BR3
      go_upto_region 6 with fail
      clear f0 f1 f2 g0 g1 g2
      generalize ((w1.setCell ⟨fb, 0, none⟩ (.int .i64 q3)).setCell ⟨fb, 1, none⟩ (.int .u64 (r3 : Nat))).setCell ⟨fb, 2, none⟩ (.int .u64 (d3 : Nat)) = wd at *
      have h0 := BH.out.cell 0
      have h1 := BH.out.cell 1
      go_wp2_with fail
      clear h1
      refine wp_region_lexT (fun W => BoxH w w.heap.size #[.int .i64 c, .bool false, .bool ab] 101 W ∧ BoxH w fb #[.int .i64 q3, .int .u64 (r3 : Nat), .int .u64 (d3 : Nat)] 26 W ∧ BoxH w (w.heap.size + 1 + 1) #[.int .i64 0, .int .u64 0, .int .u64 0, .int .i64 0, .int .u64 0, .int .u64 0] 28 W) (⟨BH.out.tr (Grow.refl _).dr, BF.out.tr (Grow.refl _).dr, BR.out.tr (Grow.refl _).dr⟩) 4 [0, 1, 3, 2] (by kernel_rfl) (by kernel_rfl) (by intro c a d v w h; cases d <;> exact h) ?_
      iterate 3 (apply lext_take; exact rfl; exact rfl; (intro W hW; have z0 := hW.1.cell 0; have z1 := hW.2.1.cell 0; have z2 := hW.2.1.cell 1; have z3 := hW.2.1.cell 2; (try clear hW); go_simp; with_reducible rfl); try simp only [Act.put, List.setIfInBounds_toArray, List.set_cons_zero, List.set_cons_succ])
      have BF := Lib.hid (BF.out.tr (Grow.refl _).dr)
      have BH := Lib.hid (BH.out.tr (Grow.refl _).dr)
      have BR := Lib.hid (BR.out.tr (Grow.refl _).dr)
      apply lext_turn; exact rfl; exact rfl; exact rfl; intro K hK; go_simp; go_at_call 50; refine OF.out _ _ ?_; intro w5 hg5
      have BF := Lib.hid (BF.out.tr hg5)
      have BH := Lib.hid (BH.out.tr hg5)
      have BR := Lib.hid (BR.out.tr hg5)
      refine hK.out _ _ ⟨BH.out, BF.out, BR.out⟩ ?_
      clear hK hg5 h0
      try simp only [Act.put, List.setIfInBounds_toArray, List.set_cons_zero, List.set_cons_succ]
      refine lext_nil ?_
      simp only [List.drop_succ_cons, List.drop_zero]
      have z0 := BR.out.cell 0
      have g0 := BR.out.free 0
      have B1 := Lib.hid (BR.out.set 0 (.int .i64 c))
      have z1 := B1.out.cell 1
      have g1 := B1.out.free 1
      have B2 := Lib.hid (B1.out.set 1 (.int .u64 0))
      have z2 := B2.out.cell 2
      have g2 := B2.out.free 2
      have B3 := Lib.hid (B2.out.set 2 (.int .u64 1))
      have z3 := B3.out.cell 3
      have g3 := B3.out.free 3
      have B4 := Lib.hid (B3.out.set 3 (.int .i64 q3))
      have z4 := B4.out.cell 4
      have g4 := B4.out.free 4
      have B5 := Lib.hid (B4.out.set 4 (.int .u64 (r3 : Nat)))
      have z5 := B5.out.cell 5
      have g5 := B5.out.free 5
      have B6 := Lib.hid (B5.out.set 5 (.int .u64 (d3 : Nat)))
      go_wp2
      have k0 := B6.out.cell 0
      have k1 := B6.out.cell 1
      have k2 := B6.out.cell 2
      have k3 := B6.out.cell 3
      have k4 := B6.out.cell 4
      have k5 := B6.out.cell 5
      refine bodyPost_ret (v := .agg #[.int .i64 c, (.int .u64 0), (.int .u64 1), .int .i64 q3, (.int .u64 (r3 : Nat)), (.int .u64 (d3 : Nat))]) (by simp only [List.setIfInBounds_toArray, List.set_cons_zero, List.set_cons_succ] at k0 k1 k2 k3 k4 k5; simp [results, Try.f81, go_sem, k0, k1, k2, k3, k4, k5]) rfl ?_
      exact HR.out ⟨⟨c, 0, 1⟩, ⟨q3, r3, d3⟩⟩ HV.out _ B6.out.grow
  | true =>
    have s0 := BN.out.cell 0
    have s1 := BN.out.cell 1
    have s2 := BN.out.cell 2
    have g0 := BF.out.free 0
    have f0 := BF.out.cell 0
    have g1 := (BF.out.set 0 (.int .i64 q1)).free 1
    have f1 := (BF.out.set 0 (.int .i64 q1)).cell 1
    have g2 := ((BF.out.set 0 (.int .i64 q1)).set 1 (.int .u64 (r1 : Nat))).free 2
    have f2 := ((BF.out.set 0 (.int .i64 q1)).set 1 (.int .u64 (r1 : Nat))).cell 2
    have BF3 := Lib.hid (((BF.out.set 0 (.int .i64 q1)).set 1 (.int .u64 (r1 : Nat))).set 2 (.int .u64 (d1 : Nat)))
    have BH3 : Hid (BoxH w w.heap.size #[.int .i64 c, .bool true, .bool ab] 101 (((wb.setCell ⟨fb, 0, none⟩ (.int .i64 q1)).setCell ⟨fb, 1, none⟩ (.int .u64 (r1 : Nat))).setCell ⟨fb, 2, none⟩ (.int .u64 (d1 : Nat)))) := ((BH.out.other n1 BF.out.2.1).other n1 BF.out.2.1).other n1 BF.out.2.1
    have BR3 : Hid (BoxH w (w.heap.size + 1 + 1) #[.int .i64 0, .int .u64 0, .int .u64 0, .int .i64 0, .int .u64 0, .int .u64 0] 28 (((wb.setCell ⟨fb, 0, none⟩ (.int .i64 q1)).setCell ⟨fb, 1, none⟩ (.int .u64 (r1 : Nat))).setCell ⟨fb, 2, none⟩ (.int .u64 (d1 : Nat)))) := ((BR.out.other n3 BF.out.2.1).other n3 BF.out.2.1).other n3 BF.out.2.1
    have BN3 := Lib.hid (((BN.out.other (j := 0) (v := .int .i64 q1) n2 BF.out.2.1).other (j := 1) (v := .int .u64 (r1 : Nat)) n2 BF.out.2.1).other (j := 2) (v := .int .u64 (d1 : Nat)) n2 BF.out.2.1)
    go_upto_region 4 with fail
    clear f0 f1 f2 g0 g1 g2 s0 s1 s2 BF BH BR BN h0 h1
    generalize ((wb.setCell ⟨fb, 0, none⟩ (.int .i64 q1)).setCell ⟨fb, 1, none⟩ (.int .u64 (r1 : Nat))).setCell ⟨fb, 2, none⟩ (.int .u64 (d1 : Nat)) = wc at *
    have BF := Lib.hid BF3.out
    have BH := Lib.hid BH3.out
    have BR := Lib.hid BR3.out
    have BN := Lib.hid BN3.out
    clear BF3 BH3 BR3 BN3
    have h0 := BH.out.cell 0
    have h1 := BH.out.cell 1
    have p0 := BN.out.cell 10
    have f0 := BF.out.cell 0
    have f1 := BF.out.cell 1
    have f2 := BF.out.cell 2
    cases pl with
    | true =>
      go_upto_region 6 with fail
      clear p0 f0 f1 f2
      go_wp2_with fail
      clear h1
      refine wp_region_lexT (fun W => BoxH w w.heap.size #[.int .i64 c, .bool true, .bool ab] 101 W ∧ BoxH w fb #[.int .i64 q1, .int .u64 (r1 : Nat), .int .u64 (d1 : Nat)] 26 W ∧ BoxH w (w.heap.size + 1 + 1) #[.int .i64 0, .int .u64 0, .int .u64 0, .int .i64 0, .int .u64 0, .int .u64 0] 28 W) (⟨BH.out.tr (Grow.refl _).dr, BF.out.tr (Grow.refl _).dr, BR.out.tr (Grow.refl _).dr⟩) 4 [0, 1, 2, 3] (by kernel_rfl) (by kernel_rfl) (by intro c a d v w h; cases d <;> exact h) ?_
      iterate 3 (apply lext_take; exact rfl; exact rfl; (intro W hW; have z0 := hW.1.cell 0; have z1 := hW.2.1.cell 0; have z2 := hW.2.1.cell 1; have z3 := hW.2.1.cell 2; (try clear hW); go_simp; with_reducible rfl); try simp only [Act.put, List.setIfInBounds_toArray, List.set_cons_zero, List.set_cons_succ])
      have BF := Lib.hid (BF.out.tr (Grow.refl _).dr)
      have BH := Lib.hid (BH.out.tr (Grow.refl _).dr)
      have BR := Lib.hid (BR.out.tr (Grow.refl _).dr)
      apply lext_turn; exact rfl; exact rfl; exact rfl; intro K hK; go_simp; go_at_call 50; refine OF.out _ _ ?_; intro w5 hg5
      have BF := Lib.hid (BF.out.tr hg5)
      have BH := Lib.hid (BH.out.tr hg5)
      have BR := Lib.hid (BR.out.tr hg5)
      refine hK.out _ _ ⟨BH.out, BF.out, BR.out⟩ ?_
      clear hK hg5 h0
      try simp only [Act.put, List.setIfInBounds_toArray, List.set_cons_zero, List.set_cons_succ]
      refine lext_nil ?_
      simp only [List.drop_succ_cons, List.drop_zero]
      have z0 := BR.out.cell 0
      have g0 := BR.out.free 0
      have B1 := Lib.hid (BR.out.set 0 (.int .i64 q1))
      have z1 := B1.out.cell 1
      have g1 := B1.out.free 1
      have B2 := Lib.hid (B1.out.set 1 (.int .u64 (r1 : Nat)))
      have z2 := B2.out.cell 2
      have g2 := B2.out.free 2
      have B3 := Lib.hid (B2.out.set 2 (.int .u64 (d1 : Nat)))
      have z3 := B3.out.cell 3
      have g3 := B3.out.free 3
      have B4 := Lib.hid (B3.out.set 3 (.int .i64 c))
      have z4 := B4.out.cell 4
      have g4 := B4.out.free 4
      have B5 := Lib.hid (B4.out.set 4 (.int .u64 0))
      have z5 := B5.out.cell 5
      have g5 := B5.out.free 5
      have B6 := Lib.hid (B5.out.set 5 (.int .u64 1))
      go_wp2
      have k0 := B6.out.cell 0
      have k1 := B6.out.cell 1
      have k2 := B6.out.cell 2
      have k3 := B6.out.cell 3
      have k4 := B6.out.cell 4
      have k5 := B6.out.cell 5
      refine bodyPost_ret (v := .agg #[.int .i64 q1, (.int .u64 (r1 : Nat)), (.int .u64 (d1 : Nat)), .int .i64 c, (.int .u64 0), (.int .u64 1)]) (by simp only [List.setIfInBounds_toArray, List.set_cons_zero, List.set_cons_succ] at k0 k1 k2 k3 k4 k5; simp [results, Try.f81, go_sem, k0, k1, k2, k3, k4, k5]) rfl ?_
      exact HR.out ⟨⟨q1, r1, d1⟩, ⟨c, 0, 1⟩⟩ HV.out _ B6.out.grow
    | false =>
      have c6 := BN.out.cell 6
      have c7 := BN.out.cell 7
      have c8 := BN.out.cell 8
      have c9 := BN.out.cell 9
      go_upto_region 5 with fail
      go_wp2_with fail
      clear p0 f0 f1 f2 c6 c7 c8 c9 h0 h1
      go_at_call 73
      refine CR.out _ _ ?_
      intro w1 f e hfe hg1
      obtain ⟨rfl, rfl⟩ := Prod.mk.inj hfe
      have BH := Lib.hid (BH.out.tr hg1)
      have BF := Lib.hid (BF.out.tr hg1)
      have BR := Lib.hid (BR.out.tr hg1)
      clear hg1 hfe
      unfold Fr.cells
      dsimp only
      have g0 := BF.out.free 0
      have f0 := BF.out.cell 0
      have g1 := (BF.out.set 0 (.int .i64 q3)).free 1
      have f1 := (BF.out.set 0 (.int .i64 q3)).cell 1
      have g2 := ((BF.out.set 0 (.int .i64 q3)).set 1 (.int .u64 (r3 : Nat))).free 2
      have f2 := ((BF.out.set 0 (.int .i64 q3)).set 1 (.int .u64 (r3 : Nat))).cell 2
      have BF3 := Lib.hid (((BF.out.set 0 (.int .i64 q3)).set 1 (.int .u64 (r3 : Nat))).set 2 (.int .u64 (d3 : Nat)))
      have BH3 : Hid (BoxH w w.heap.size #[.int .i64 c, .bool true, .bool ab] 101 (((w1.setCell ⟨fb, 0, none⟩ (.int .i64 q3)).setCell ⟨fb, 1, none⟩ (.int .u64 (r3 : Nat))).setCell ⟨fb, 2, none⟩ (.int .u64 (d3 : Nat)))) := ((BH.out.other n1 BF.out.2.1).other n1 BF.out.2.1).other n1 BF.out.2.1
      have BR3 : Hid (BoxH w (w.heap.size + 1 + 1) #[.int .i64 0, .int .u64 0, .int .u64 0, .int .i64 0, .int .u64 0, .int .u64 0] 28 (((w1.setCell ⟨fb, 0, none⟩ (.int .i64 q3)).setCell ⟨fb, 1, none⟩ (.int .u64 (r3 : Nat))).setCell ⟨fb, 2, none⟩ (.int .u64 (d3 : Nat)))) := ((BR.out.other n3 BF.out.2.1).other n3 BF.out.2.1).other n3 BF.out.2.1
      clear BF BH BR
      have BF := Lib.hid BF3.out
      have BH := Lib.hid BH3.out
      have BR := Lib.hid BR3.out
      clear BF3 BH3 BR3
      go_upto_region 6 with fail
      clear f0 f1 f2 g0 g1 g2
      generalize ((w1.setCell ⟨fb, 0, none⟩ (.int .i64 q3)).setCell ⟨fb, 1, none⟩ (.int .u64 (r3 : Nat))).setCell ⟨fb, 2, none⟩ (.int .u64 (d3 : Nat)) = wd at *
      have h0 := BH.out.cell 0
      have h1 := BH.out.cell 1
      go_wp2_with fail
      clear h1
      refine wp_region_lexT (fun W => BoxH w w.heap.size #[.int .i64 c, .bool true, .bool ab] 101 W ∧ BoxH w fb #[.int .i64 q3, .int .u64 (r3 : Nat), .int .u64 (d3 : Nat)] 26 W ∧ BoxH w (w.heap.size + 1 + 1) #[.int .i64 0, .int .u64 0, .int .u64 0, .int .i64 0, .int .u64 0, .int .u64 0] 28 W) (⟨BH.out.tr (Grow.refl _).dr, BF.out.tr (Grow.refl _).dr, BR.out.tr (Grow.refl _).dr⟩) 4 [0, 1, 2, 3] (by kernel_rfl) (by kernel_rfl) (by intro c a d v w h; cases d <;> exact h) ?_
      iterate 3 (apply lext_take; exact rfl; exact rfl; (intro W hW; have z0 := hW.1.cell 0; have z1 := hW.2.1.cell 0; have z2 := hW.2.1.cell 1; have z3 := hW.2.1.cell 2; (try clear hW); go_simp; with_reducible rfl); try simp only [Act.put, List.setIfInBounds_toArray, List.set_cons_zero, List.set_cons_succ])
      have BF := Lib.hid (BF.out.tr (Grow.refl _).dr)
      have BH := Lib.hid (BH.out.tr (Grow.refl _).dr)
      have BR := Lib.hid (BR.out.tr (Grow.refl _).dr)
      apply lext_turn; exact rfl; exact rfl; exact rfl; intro K hK; go_simp; go_at_call 50; refine OF.out _ _ ?_; intro w5 hg5
      have BF := Lib.hid (BF.out.tr hg5)
      have BH := Lib.hid (BH.out.tr hg5)
      have BR := Lib.hid (BR.out.tr hg5)
      refine hK.out _ _ ⟨BH.out, BF.out, BR.out⟩ ?_
      clear hK hg5 h0
      try simp only [Act.put, List.setIfInBounds_toArray, List.set_cons_zero, List.set_cons_succ]
      refine lext_nil ?_
      simp only [List.drop_succ_cons, List.drop_zero]
      have z0 := BR.out.cell 0
      have g0 := BR.out.free 0
      have B1 := Lib.hid (BR.out.set 0 (.int .i64 q3))
      have z1 := B1.out.cell 1
      have g1 := B1.out.free 1
      have B2 := Lib.hid (B1.out.set 1 (.int .u64 (r3 : Nat)))
      have z2 := B2.out.cell 2
      have g2 := B2.out.free 2
      have B3 := Lib.hid (B2.out.set 2 (.int .u64 (d3 : Nat)))
      have z3 := B3.out.cell 3
      have g3 := B3.out.free 3
      have B4 := Lib.hid (B3.out.set 3 (.int .i64 c))
      have z4 := B4.out.cell 4
      have g4 := B4.out.free 4
      have B5 := Lib.hid (B4.out.set 4 (.int .u64 0))
      have z5 := B5.out.cell 5
      have g5 := B5.out.free 5
      have B6 := Lib.hid (B5.out.set 5 (.int .u64 1))
      go_wp2
      have k0 := B6.out.cell 0
      have k1 := B6.out.cell 1
      have k2 := B6.out.cell 2
      have k3 := B6.out.cell 3
      have k4 := B6.out.cell 4
      have k5 := B6.out.cell 5
      refine bodyPost_ret (v := .agg #[.int .i64 q3, (.int .u64 (r3 : Nat)), (.int .u64 (d3 : Nat)), .int .i64 c, (.int .u64 0), (.int .u64 1)]) (by simp only [List.setIfInBounds_toArray, List.set_cons_zero, List.set_cons_succ] at k0 k1 k2 k3 k4 k5; simp [results, Try.f81, go_sem, k0, k1, k2, k3, k4, k5]) rfl ?_
      exact HR.out ⟨⟨q3, r3, d3⟩, ⟨c, 0, 1⟩⟩ HV.out _ B6.out.grow
end Go.Proofs.Ytjcgkhcbdbbdkaa
