/-
  Over of fractions.
-/
import Derived.Test.YthgibnmnjoniiaaChecked
import Derived.Test.YthgibnmnjoniiaaRatO
namespace Go.Proofs.Ythgibnmnjoniiaa
open Go.RowKit Go.Lib B


set_option maxRecDepth 100000 in
set_option maxHeartbeats 8000000 in
theorem over22_any (n1 e1 n2 e2 : Int) (k1 j1 k2 j2 : Nat) (a b : Value) (S T : Nat → Prop) (w : World) (ha : RatR w S a n1 e1 k1 j1) (hb : RatR w T b n2 e2 k2 j2) (hk1 : k1 ≤ 1000) (hk2 : k2 ≤ 1000) (hj1 : j1 ≤ 1000) (hj2 : j2 ≤ 1000) {R : Ending → World → Prop}
    (hR : ∀ v w', Grow w w' → RatR w' (fun b => w.heap.size ≤ b) v (if e1 * n2 < 0 then -(n1 * e2) else n1 * e2) (if e1 * n2 < 0 then -(e1 * n2) else e1 * n2) (k1 + j2) (j1 + k2) → R (.returned v) w') :
    Calls Try.prog 97 #[a, b] w R := by
  have HR := Lib.hid hR
  clear hR
  obtain ⟨p, A, x, c, p', A', x', c', rfl, ha1, ha2⟩ := ha
  obtain ⟨q, B, y, d, q', B', y', d', rfl, hb1, hb2⟩ := hb
  have HA1 := Lib.hid ha1
  have HA2 := Lib.hid ha2
  have HB1 := Lib.hid hb1
  have HB2 := Lib.hid hb2
  clear ha1 ha2 hb1 hb2
  obtain ⟨wa, hwa⟩ : ∃ wa, wa = ((w.alloc (.cells #[.bool p, .slice A x c, .bool p', .slice A' x' c'] 86)).alloc (.cells #[.bool q, .slice B y d, .bool q', .slice B' y' d'] 86)).alloc (.cells #[.bool false, .slice none 0 0, .bool false, .slice none 0 0] 86) := ⟨_, rfl⟩
  have K0 : Hid (∀ W, Grow wa W → W.heap[w.heap.size]? = some (.cells #[.bool p, .slice A x c, .bool p', .slice A' x' c'] 86 (0, 0))) := fun W h => by
    subst hwa
    exact blk_al w _ _ ((((Grow.refl _).al _).al _).tr h)
  have K1 : Hid (∀ W, Grow wa W → W.heap[w.heap.size + 1]? = some (.cells #[.bool q, .slice B y d, .bool q', .slice B' y' d'] 86 (0, 0))) := fun W h => by
    subst hwa
    have := blk_al (w.alloc (.cells #[.bool p, .slice A x c, .bool p', .slice A' x' c'] 86)) _ _ (((Grow.refl _).al _).tr h)
    rwa [World.size_alloc] at this
  have K2 : Hid (∀ W, Grow wa W → W.heap[w.heap.size + 1 + 1]? = some (.cells #[.bool false, .slice none 0 0, .bool false, .slice none 0 0] 86 (0, 0))) := fun W h => by
    subst hwa
    have := blk_al _ _ _ h
    rwa [World.size_alloc, World.size_alloc] at this
  have GA : Hid (Grow w wa) := by subst hwa; exact (((Grow.refl w).al _).al _).al _
  have GS : Hid (wa.heap.size = w.heap.size + 3) := by
    subst hwa
    show _ = _
    rw [World.size_alloc, World.size_alloc, World.size_alloc]
  go_enter Try.func97, Try.ntmps97
  go_wp2_with fail
  rw [← hwa]
  clear hwa
  refine wp_region_free2 ⟨10, some 5, 66, #[.bool false, .slice none 0 0]⟩ ⟨11, some 6, 66, #[.bool false, .slice none 0 0]⟩ 12 [0, 1, 2, 3, 5, 6, 7, 8, 4, 9] (by kernel_rfl) (by kernel_rfl) (by decide) ?_ ?_ (by intro c a d v w h; cases d <;> exact h) rfl rfl ?_
  · exact ⟨_, rfl, rfl, rfl, fun a W K h => by go_simp; exact h⟩
  · exact ⟨_, rfl, rfl, rfl, fun a W K h => by go_simp; exact h⟩
  iterate 8
    apply fr_take; exact rfl; (simp); (simp); (intro x1 x2; exact rfl)
    · intro x1 x2 W' hW
      have z0 := cell_of_row _ w.heap.size 0 _ _ (0, 0) (K0.out _ ((Grow.refl _).dr.tr hW))
      have z1 := cell_of_row _ w.heap.size 1 _ _ (0, 0) (K0.out _ ((Grow.refl _).dr.tr hW))
      have z2 := cell_of_row _ w.heap.size 2 _ _ (0, 0) (K0.out _ ((Grow.refl _).dr.tr hW))
      have z3 := cell_of_row _ w.heap.size 3 _ _ (0, 0) (K0.out _ ((Grow.refl _).dr.tr hW))
      have y0 := cell_of_row _ (w.heap.size + 1) 0 _ _ (0, 0) (K1.out _ ((Grow.refl _).dr.tr hW))
      have y1 := cell_of_row _ (w.heap.size + 1) 1 _ _ (0, 0) (K1.out _ ((Grow.refl _).dr.tr hW))
      have y2 := cell_of_row _ (w.heap.size + 1) 2 _ _ (0, 0) (K1.out _ ((Grow.refl _).dr.tr hW))
      have y3 := cell_of_row _ (w.heap.size + 1) 3 _ _ (0, 0) (K1.out _ ((Grow.refl _).dr.tr hW))
      clear hW
      simp only [FA.put2, Act.put, List.setIfInBounds_toArray, List.set_cons_zero, List.set_cons_succ]
      go_simp
      with_reducible rfl
    simp only [Act.put, List.setIfInBounds_toArray, List.set_cons_zero, List.set_cons_succ]
  apply fr_turn; exact rfl; exact rfl; (simp); (simp); (intro x1 x2; exact rfl)
  intro x1 x2 v1 hW K hK
  simp only [FA.put2, Act.put, List.setIfInBounds_toArray, List.set_cons_zero, List.set_cons_succ]
  go_simp
  go_at_call 41
  refine mul_any n1 e2 k1 j2 _ _ _ _ v1 (HA1.out.gr (GA.out.tr ((Grow.refl _).dr.tr hW))) (HB2.out.gr (GA.out.tr ((Grow.refl _).dr.tr hW))) (by omega) (by omega) ?_
  intro r2 v2 hg2 hr2
  obtain ⟨pn, An, nn, cn, rfl⟩ := hr2.parts
  have H1 := Lib.hid ((Grow.refl _).dr.tr (hW.tr hg2))
  have RN := Lib.hid hr2.both
  have L1 := Lib.hid (show wa.heap.size ≤ v1.heap.size from ((Grow.refl wa).dr.tr hW).size)
  refine hK.out _ _ hg2 ?_
  clear hK hg2 hr2 hW
  simp only [Act.put, List.setIfInBounds_toArray, List.set_cons_zero, List.set_cons_succ]
  apply fr_turn; exact rfl; exact rfl; (simp); (simp); (intro x1 x2; exact rfl)
  intro x1 x2 v3 hW K hK
  simp only [FA.put2, Act.put, List.setIfInBounds_toArray, List.set_cons_zero, List.set_cons_succ]
  go_simp
  go_at_call 41
  refine mul_any e1 n2 j1 k2 _ _ _ _ v3 (HA2.out.gr (GA.out.tr (H1.out.tr hW))) (HB1.out.gr (GA.out.tr (H1.out.tr hW))) (by omega) (by omega) ?_
  intro r4 v4 hg4 hr4
  obtain ⟨pd, Ad, nd, cd, rfl⟩ := hr4.parts
  have H2 := Lib.hid (H1.out.tr (hW.tr hg4))
  have RN := Lib.hid (RN.out.gr (hW.tr hg4))
  have RD := Lib.hid hr4.both
  have L3 := Lib.hid (show wa.heap.size ≤ v3.heap.size from (H1.out.tr hW).size)
  refine hK.out _ _ hg4 ?_
  clear hK hg4 hr4 hW
  simp only [Act.put, List.setIfInBounds_toArray, List.set_cons_zero, List.set_cons_succ]
  refine fr_nil ?_
  intro b1 b2 V hV hne hb1 hb2
  obtain ⟨hb11, hb12, hb13⟩ := hb1
  obtain ⟨hb21, hb22, hb23⟩ := hb2
  have i1 := hb13 (v1.heap.size, v2.heap.size) (by simp)
  have i2 := hb23 (v1.heap.size, v2.heap.size) (by simp)
  have i3 := hb13 (v3.heap.size, v4.heap.size) (by simp)
  have i4 := hb23 (v3.heap.size, v4.heap.size) (by simp)
  dsimp only at i1 i2 i3 i4
  have gs := GS.out
  have l1 := L1.out
  have l3 := L3.out
  have NN : Hid (∀ b, v1.heap.size ≤ b ∧ b < v2.heap.size → b ≠ b1 ∧ b ≠ b2) := fun b hb => ⟨by omega, by omega⟩
  have ND : Hid (∀ b, v3.heap.size ≤ b ∧ b < v4.heap.size → b ≠ b1 ∧ b ≠ b2) := fun b hb => ⟨by omega, by omega⟩
  have SN : Hid (∀ b, v1.heap.size ≤ b ∧ b < v2.heap.size → w.heap.size ≤ b ∧ b ≠ w.heap.size + 1 + 1) := fun b hb => ⟨by omega, by omega⟩
  have SD : Hid (∀ b, v3.heap.size ≤ b ∧ b < v4.heap.size → w.heap.size ≤ b ∧ b ≠ w.heap.size + 1 + 1) := fun b hb => ⟨by omega, by omega⟩
  have HV := Lib.hid (H2.out.tr hV)
  have RN := Lib.hid (RN.out.gr hV)
  have RD := Lib.hid (RD.out.gr hV)
  have F1 := hb11
  have F2 := (st2_other (W := V) (c := b2) (b := b1) hne.symm (.bool pn) (.slice An nn cn)).trans hb21
  obtain ⟨V2, hV2⟩ : ∃ V2, V2 = st2 (st2 V b1 (.bool pn) (.slice An nn cn)) b2 (.bool pd) (.slice Ad nd cd) := ⟨_, rfl⟩
  have GV : Hid (Grow wa V2) := by
    subst hV2
    exact (HV.out.st2 (by omega) _ _).st2 (by omega) _ _
  have Y1 : Hid (NumBox V2 b1 pn An nn cn (n1 * e2) (k1 + j2) (fun b => v1.heap.size ≤ b ∧ b < v2.heap.size)) := by
    subst hV2
    exact ⟨(st2_other hne _ _).trans (st2_same hb11 _ _), (RN.out.st2 (fun b hb => (NN.out b hb).1) _ _).st2 (fun b hb => (NN.out b hb).2) _ _⟩
  have Y2 : Hid (NumBox V2 b2 pd Ad nd cd (e1 * n2) (j1 + k2) (fun b => v3.heap.size ≤ b ∧ b < v4.heap.size)) := by
    subst hV2
    exact ⟨st2_same F2 _ _, (RD.out.st2 (fun b hb => (ND.out b hb).1) _ _).st2 (fun b hb => (ND.out b hb).2) _ _⟩
  have NE := Lib.hid hne
  have B1 := Lib.hid (show wa.heap.size ≤ b1 by omega)
  have B2 := Lib.hid (show wa.heap.size ≤ b2 by omega)
  simp only [st2] at F2 hV2
  simp only [FA.put2, ptrTo, Act.put, List.setIfInBounds_toArray, List.set_cons_zero, List.set_cons_succ]
  simp only [List.drop_succ_cons, List.drop_zero]
  have c0 := cell_of_row _ b1 0 _ _ (0, 0) F1
  have f0 := frozen_of_row _ b1 0 _ _ F1
  have g1 := blk_set F1 0 (.bool pn)
  have c1 := cell_of_row _ b1 1 _ _ (0, 0) g1
  have f1 := frozen_of_row _ b1 1 _ _ g1
  have d0 := cell_of_row _ b2 0 _ _ (0, 0) F2
  have e0 := frozen_of_row _ b2 0 _ _ F2
  have g2 := blk_set F2 0 (.bool pd)
  have d1 := cell_of_row _ b2 1 _ _ (0, 0) g2
  have e1 := frozen_of_row _ b2 1 _ _ g2
  simp only [List.setIfInBounds_toArray, List.set_cons_zero] at c0 c1 d0 d1
  clear g1 g2 F1 F2
  have z0 := Y2.out.c0
  have z1 := Y2.out.c1
  clear hb11 hb12 hb13 hb21 hb22 hb23 i1 i2 i3 i4 hne hV l1 l3 gs
  rw [hV2] at z0 z1
  go_wp2_with fail
  rw [← hV2]
  clear c0 f0 c1 f1 d0 e0 d1 e1 z0 z1 hV2
  go_at_call 53
  refine sign_any (e1 * n2) (j1 + k2) _ _ V2 Y2.out.big (by omega) ?_
  intro V3 hV3
  have GV := Lib.hid (GV.out.tr hV3)
  have Y1 := Lib.hid (Y1.out.gr hV3)
  have Y2 := Lib.hid (Y2.out.gr hV3)
  clear hV3
  obtain ⟨sg, hsg⟩ : ∃ sg, (e1 * n2).sign = sg := ⟨_, rfl⟩
  have hs : sg < 0 ↔ e1 * n2 < 0 := by
    rw [← hsg, ← sgnC]
    unfold cmpI'
    split <;> (try split) <;> omega
  rw [hsg]
  clear hsg
  by_cases h0 : e1 * n2 < 0
  · have t1 : decide (sg < 0) = true := decide_eq_true (hs.2 h0)
    rw [if_pos h0, if_pos h0] at HR
    clear hs h0
    go_wp2_with fail
    refine wp_region_lexT (Grow V3) ((Grow.refl V3).dr) 3 [0, 2, 1] (by kernel_rfl) (by kernel_rfl) (by intro c a d v w h; cases d <;> exact h) ?_
    iterate 1 (apply lext_take; exact rfl; exact rfl; (intro W hW; have z0 := (Y1.out.gr hW).c0; have z1 := (Y1.out.gr hW).c1; (try clear hW); go_simp; with_reducible rfl); try simp only [Act.put, List.setIfInBounds_toArray, List.set_cons_zero, List.set_cons_succ])
    iterate 1 (apply lext_take; exact rfl; exact rfl; (intro W hW; have z0 := (Y2.out.gr hW).c0; have z1 := (Y2.out.gr hW).c1; (try clear hW); go_simp; with_reducible rfl); try simp only [Act.put, List.setIfInBounds_toArray, List.set_cons_zero, List.set_cons_succ])
    apply lext_turn; exact rfl; exact rfl; exact rfl; intro K hK; go_simp; go_at_call 43; refine neg_any (n1 * e2) (k1 + j2) _ _ _ (Y1.out.gr (Grow.refl V3).dr).big (by omega) ?_; intro r5 V4 hg5 hr5
    obtain ⟨pm, Am, nm, cm, rfl⟩ := hr5.parts
    have H5 := Lib.hid ((Grow.refl V3).dr.tr hg5)
    have RM := Lib.hid (hr5.into fun b hb => hb.1)
    refine hK.out _ _ H5.out ?_
    clear hK hg5 hr5
    try simp only [Act.put, List.setIfInBounds_toArray, List.set_cons_zero, List.set_cons_succ]
    refine lext_nil ?_
    simp only [List.drop_succ_cons, List.drop_zero]
    go_wp2_with fail
    go_at_call 43
    refine neg_any (e1 * n2) (j1 + k2) _ _ _ (Y2.out.gr H5.out).big (by omega) ?_
    intro r6 V5 hg6 hr6
    obtain ⟨pe, Ae, ne, ce, rfl⟩ := hr6.parts
    have H6 := Lib.hid (H5.out.tr hg6)
    have RM := Lib.hid (RM.out.gr hg6)
    have RE := Lib.hid (hr6.into fun b hb => hb.1)
    clear hg6 hr6 t1
    have F1 := (Y1.out.gr H6.out).blk
    have F2 := (st2_other (W := V5) (c := b2) (b := b1) NE.out.symm (.bool pm) (.slice Am nm cm)).trans (Y2.out.gr H6.out).blk
    have GV3 : Hid (Grow wa (st2 (st2 V5 b1 (.bool pm) (.slice Am nm cm)) b2 (.bool pe) (.slice Ae ne ce))) := ((GV.out.tr H6.out).st2 B1.out _ _).st2 B2.out _ _
    have Y3 : Hid (NumBox (st2 (st2 V5 b1 (.bool pm) (.slice Am nm cm)) b2 (.bool pe) (.slice Ae ne ce)) b1 pm Am nm cm (-(n1 * e2)) (k1 + j2) (fun b => v1.heap.size ≤ b ∧ b < v2.heap.size)) :=
      ⟨(st2_other NE.out _ _).trans (st2_same F1 _ _), (RM.out.st2 (fun b hb => (NN.out b hb).1) _ _).st2 (fun b hb => (NN.out b hb).2) _ _⟩
    have Y4 : Hid (NumBox (st2 (st2 V5 b1 (.bool pm) (.slice Am nm cm)) b2 (.bool pe) (.slice Ae ne ce)) b2 pe Ae ne ce (-(e1 * n2)) (j1 + k2) (fun b => v3.heap.size ≤ b ∧ b < v4.heap.size)) :=
      ⟨st2_same F2 _ _, (RE.out.st2 (fun b hb => (ND.out b hb).1) _ _).st2 (fun b hb => (ND.out b hb).2) _ _⟩
    simp only [st2] at F2
    have c0 := cell_of_row _ b1 0 _ _ (0, 0) F1
    have f0 := frozen_of_row _ b1 0 _ _ F1
    have g1 := blk_set F1 0 (.bool pm)
    have c1 := cell_of_row _ b1 1 _ _ (0, 0) g1
    have f1 := frozen_of_row _ b1 1 _ _ g1
    have d0 := cell_of_row _ b2 0 _ _ (0, 0) F2
    have e0 := frozen_of_row _ b2 0 _ _ F2
    have g2 := blk_set F2 0 (.bool pe)
    have d1 := cell_of_row _ b2 1 _ _ (0, 0) g2
    have e1 := frozen_of_row _ b2 1 _ _ g2
    simp only [List.setIfInBounds_toArray, List.set_cons_zero] at c0 c1 d0 d1
    clear g1 g2 F1 F2
    have xz0 := Y3.out.c0
    have xz1 := Y3.out.c1
    have xy0 := Y4.out.c0
    have xy1 := Y4.out.c1
    have hb := K2.out _ GV3.out
    have xc0 := cell_of_row _ (w.heap.size + 1 + 1) 0 _ _ (0, 0) hb
    have xf0 := frozen_of_row _ (w.heap.size + 1 + 1) 0 _ _ hb
    have xb1 := blk_set hb 0 (.bool pm)
    have xc1 := cell_of_row _ (w.heap.size + 1 + 1) 1 _ _ (0, 0) xb1
    have xf1 := frozen_of_row _ (w.heap.size + 1 + 1) 1 _ _ xb1
    have xb2 := blk_set xb1 1 (.slice Am nm cm)
    have xc2 := cell_of_row _ (w.heap.size + 1 + 1) 2 _ _ (0, 0) xb2
    have xf2 := frozen_of_row _ (w.heap.size + 1 + 1) 2 _ _ xb2
    have xb3 := blk_set xb2 2 (.bool pe)
    have xc3 := cell_of_row _ (w.heap.size + 1 + 1) 3 _ _ (0, 0) xb3
    have xf3 := frozen_of_row _ (w.heap.size + 1 + 1) 3 _ _ xb3
    have xb4 := blk_set xb3 3 (.slice Ae ne ce)
    have xr0 := cell_of_row _ (w.heap.size + 1 + 1) 0 _ _ (0, 0) xb4
    have xr1 := cell_of_row _ (w.heap.size + 1 + 1) 1 _ _ (0, 0) xb4
    have xr2 := cell_of_row _ (w.heap.size + 1 + 1) 2 _ _ (0, 0) xb4
    have xr3 := cell_of_row _ (w.heap.size + 1 + 1) 3 _ _ (0, 0) xb4
    simp only [List.setIfInBounds_toArray, List.set_cons_zero, List.set_cons_succ] at xc0 xc1 xc2 xc3 xr0 xr1 xr2 xr3
    clear xb1 xb2 xb3 xb4
    clear hb
    simp only [st2] at xz0 xz1 xy0 xy1 xc0 xf0 xc1 xf1 xc2 xf2 xc3 xf3 xr0 xr1 xr2 xr3
    go_wp2
    refine bodyPost_ret (v := .agg #[.bool pm, .slice Am nm cm, .bool pe, .slice Ae ne ce]) (by simp [results, Try.f97, go_sem, xr0, xr1, xr2, xr3]) rfl (HR.out _ _ ?_ ?_)
    · exact (GA.out.tr GV3.out).st4 (by omega) _ _ _ _
    · exact ⟨_, _, _, _, _, _, _, _, rfl, (Y3.out.big.st4 (fun b hb => (SN.out b hb).2) _ _ _ _).into fun b hb => (SN.out b hb).1, (Y4.out.big.st4 (fun b hb => (SD.out b hb).2) _ _ _ _).into fun b hb => (SD.out b hb).1⟩
  · have t1 : decide (sg < 0) = false := decide_eq_false fun h => h0 (hs.1 h)
    rw [if_neg h0, if_neg h0] at HR
    clear hs h0
    have xz0 := Y1.out.c0
    have xz1 := Y1.out.c1
    have xy0 := Y2.out.c0
    have xy1 := Y2.out.c1
    have hb := K2.out _ GV.out
    have xc0 := cell_of_row _ (w.heap.size + 1 + 1) 0 _ _ (0, 0) hb
    have xf0 := frozen_of_row _ (w.heap.size + 1 + 1) 0 _ _ hb
    have xb1 := blk_set hb 0 (.bool pn)
    have xc1 := cell_of_row _ (w.heap.size + 1 + 1) 1 _ _ (0, 0) xb1
    have xf1 := frozen_of_row _ (w.heap.size + 1 + 1) 1 _ _ xb1
    have xb2 := blk_set xb1 1 (.slice An nn cn)
    have xc2 := cell_of_row _ (w.heap.size + 1 + 1) 2 _ _ (0, 0) xb2
    have xf2 := frozen_of_row _ (w.heap.size + 1 + 1) 2 _ _ xb2
    have xb3 := blk_set xb2 2 (.bool pd)
    have xc3 := cell_of_row _ (w.heap.size + 1 + 1) 3 _ _ (0, 0) xb3
    have xf3 := frozen_of_row _ (w.heap.size + 1 + 1) 3 _ _ xb3
    have xb4 := blk_set xb3 3 (.slice Ad nd cd)
    have xr0 := cell_of_row _ (w.heap.size + 1 + 1) 0 _ _ (0, 0) xb4
    have xr1 := cell_of_row _ (w.heap.size + 1 + 1) 1 _ _ (0, 0) xb4
    have xr2 := cell_of_row _ (w.heap.size + 1 + 1) 2 _ _ (0, 0) xb4
    have xr3 := cell_of_row _ (w.heap.size + 1 + 1) 3 _ _ (0, 0) xb4
    simp only [List.setIfInBounds_toArray, List.set_cons_zero, List.set_cons_succ] at xc0 xc1 xc2 xc3 xr0 xr1 xr2 xr3
    clear xb1 xb2 xb3 xb4
    clear hb
    go_wp2
    refine bodyPost_ret (v := .agg #[.bool pn, .slice An nn cn, .bool pd, .slice Ad nd cd]) (by simp [results, Try.f97, go_sem, xr0, xr1, xr2, xr3]) rfl (HR.out _ _ ?_ ?_)
    · exact (GA.out.tr GV.out).st4 (by omega) _ _ _ _
    · exact ⟨_, _, _, _, _, _, _, _, rfl, (Y1.out.big.st4 (fun b hb => (SN.out b hb).2) _ _ _ _).into fun b hb => (SN.out b hb).1, (Y2.out.big.st4 (fun b hb => (SD.out b hb).2) _ _ _ _).into fun b hb => (SD.out b hb).1⟩
end Go.Proofs.Ythgibnmnjoniiaa
