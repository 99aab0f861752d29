/-
  Whole numbers of words: Add, Sub, Cmp, Int.
-/
import Derived.Test.YtjcgkhcbdbbdkaaChecked
import Derived.Test.YtjcgkhcbdbbdkaaBigA
import Derived.Test.YtjcgkhcbdbbdkaaLexT
namespace Go.Proofs.Ytjcgkhcbdbbdkaa
open Go.RowKit Go.Lib B


theorem sg_add {x y : Int} {p : Bool} (hx : decide (x < 0) = p) (hy : decide (y < 0) = p) : sg p (x.natAbs + y.natAbs) = x + y := by
  cases p <;> simp only [sg, decide_eq_true_eq, decide_eq_false_iff_not] at * <;> simp <;> omega
theorem sg_sub {x y : Int} {p q : Bool} (hx : decide (x < 0) = p) (hy : decide (y < 0) = q) (hne : p ≠ q) (hle : y.natAbs ≤ x.natAbs) : sg p (x.natAbs - y.natAbs) = x + y := by
  cases p <;> cases q <;> simp only [sg, decide_eq_true_eq, decide_eq_false_iff_not] at * <;> simp at * <;> omega

set_option maxRecDepth 100000 in
set_option maxHeartbeats 4000000 in
theorem add_any (x y : Int) (k1 k2 : Nat) (a b : Value) (S T : Nat → Prop) (w : World) (ha : BigR w S a x k1) (hb : BigR w T b y k2) (hk1 : k1 ≤ 30000) (hk2 : k2 ≤ 30000) {R : Ending → World → Prop}
    (hR : ∀ r w', Grow w w' → BigR w' (fun b => w.heap.size ≤ b) r (x + y) (max k1 k2 + 1) → R (.returned r) w') :
    Calls Try.prog 60 #[a, b] w R := by
  have HR := Lib.hid hR
  clear hR
  obtain ⟨l1, m1, rfl, hm1⟩ := ha
  obtain ⟨l2, m2, rfl, hm2⟩ := hb
  obtain ⟨A1, c1, rfl, g11, g12⟩ := rd_slice hm1
  obtain ⟨A2, c2, rfl, g21, g22⟩ := rd_slice hm2
  have L1 := Lib.hid l1
  have L2 := Lib.hid l2
  have HM1 := Lib.hid hm1
  have HM2 := Lib.hid hm2
  have PL := Lib.hid fun W (h : Grow w W) (R : Ending → World → Prop) hR => plus_any (wds x.natAbs) (wds y.natAbs) _ _ _ _ W (hm1.gr2 (by decide) h) (hm2.gr2 (by decide) h) (wd_wds _) (wd_wds _) (by omega) (by omega) (R := R) hR
  have LE1 := Lib.hid fun (hle : y.natAbs ≤ x.natAbs) W (h : Grow w W) (R : Ending → World → Prop) hR => less_any (wds x.natAbs) (wds y.natAbs) _ _ _ _ W (hm1.gr2 (by decide) h) (hm2.gr2 (by decide) h) (wd_wds _) (wd_wds _) (by omega) (by omega) (by rw [vw_wds, vw_wds]; exact hle) (R := R) hR
  have LE2 := Lib.hid fun (hle : x.natAbs ≤ y.natAbs) W (h : Grow w W) (R : Ending → World → Prop) hR => less_any (wds y.natAbs) (wds x.natAbs) _ _ _ _ W (hm2.gr2 (by decide) h) (hm1.gr2 (by decide) h) (wd_wds _) (wd_wds _) (by omega) (by omega) (by rw [vw_wds, vw_wds]; exact hle) (R := R) hR
  have SZ := Lib.hid fun W (h : Grow w W) (R : Ending → World → Prop) hR => size_any x.natAbs y.natAbs _ _ _ _ W (hm1.gr2 (by decide) h) (hm2.gr2 (by decide) h) (by omega) (R := R) hR
  obtain ⟨p, hp⟩ : ∃ p, decide (x < 0) = p := ⟨_, rfl⟩
  obtain ⟨q, hq⟩ : ∃ q, decide (y < 0) = q := ⟨_, rfl⟩
  have HP := Lib.hid hp
  have HQ0 := Lib.hid hq
  rw [hp, hq]
  have LX := Lib.hid (rfl : (wds x.natAbs).length = (wds x.natAbs).length)
  have KB : Hid (∀ z : Int, z.natAbs ≤ x.natAbs + y.natAbs → (wds z.natAbs).length ≤ max k1 k2 + 1) := by
    intro z hz
    have h1 := wds_le_len hz
    have h2 := wds_add_len x.natAbs y.natAbs
    have h3 := L1.out
    have h4 := L2.out
    omega
  clear hp hq hm1 hm2 l1 l2
  generalize (wds x.natAbs).length = n1 at *
  generalize (wds y.natAbs).length = n2 at *
  obtain ⟨wa, hwa⟩ : ∃ wa, wa = (((w.alloc (.cells #[.bool p, .slice A1 n1 c1] 33)).alloc (.cells #[.bool q, .slice A2 n2 c2] 33)).alloc (.cells #[.bool false, .slice none 0 0] 33)) := ⟨_, rfl⟩
  have K0 : Hid (∀ W, Grow wa W → W.heap[w.heap.size]? = some (.cells #[.bool p, .slice A1 n1 c1] 33 (0, 0))) := fun W h => by
    subst hwa
    exact blk_al w _ _ ((((Grow.refl _).al _).al _).tr h)
  have K1 : Hid (∀ W, Grow wa W → W.heap[w.heap.size + 1]? = some (.cells #[.bool q, .slice A2 n2 c2] 33 (0, 0))) := fun W h => by
    subst hwa
    have := blk_al (w.alloc (.cells #[.bool p, .slice A1 n1 c1] 33)) _ _ (((Grow.refl _).al _).tr h)
    rwa [World.size_alloc] at this
  have K2 : Hid (∀ W, Grow wa W → W.heap[w.heap.size + 1 + 1]? = some (.cells #[.bool false, .slice none 0 0] 33 (0, 0))) := fun W h => by
    subst hwa
    have := blk_al _ _ _ h
    rwa [World.size_alloc, World.size_alloc] at this
  have GA : Hid (Grow w wa) := by
    subst hwa
    exact (((Grow.refl w).al _).al _).al _
  have GS : Hid (wa.heap.size = w.heap.size + 3) := by
    subst hwa
    show _ = _
    rw [World.size_alloc, World.size_alloc, World.size_alloc]
  by_cases hpq : p = q
  · subst hpq
    cases p with
    | false =>
      go_enter Try.func60, Try.ntmps60
      go_wp2_with fail
      rw [← hwa]
      clear hwa
      have HWW := Lib.hid (Grow.refl wa)
      refine wp_region_lexT (Grow wa) (HWW.out.dr) 7 [0, 1, 2, 3, 4, 5, 6] (by kernel_rfl) (by kernel_rfl) (by intro c a d v w h; cases d <;> exact h) ?_
      iterate 6 (apply lext_take; exact rfl; exact rfl; (intro W hW; have z0 := cell_of_row _ w.heap.size 0 _ _ (0, 0) (K0.out _ hW); have z1 := cell_of_row _ w.heap.size 1 _ _ (0, 0) (K0.out _ hW); have y0 := cell_of_row _ (w.heap.size + 1) 0 _ _ (0, 0) (K1.out _ hW); have y1 := cell_of_row _ (w.heap.size + 1) 1 _ _ (0, 0) (K1.out _ hW); (try clear hW); go_simp; with_reducible rfl); try simp only [Act.put, List.setIfInBounds_toArray, List.set_cons_zero, List.set_cons_succ])
      apply lext_turn; exact rfl; exact rfl; exact rfl; intro K hK; go_simp; go_at_call 90; refine PL.out _ (GA.out.tr HWW.out.dr) _ ?_; intro r4 ls w4 hown4 hwd4 hv4 hl4 hg4
      have G4 := Lib.hid (HWW.out.dr.tr hg4)
      have HO4 := Lib.hid hown4
      have HS4 := Lib.hid hv4
      have WD4 := Lib.hid hwd4
      have SZ4 : Hid (∀ b, (wa).heap.size ≤ b → w.heap.size + 3 ≤ b) := fun b hb => by have := HWW.out.size; have := GS.out; omega
      refine hK.out _ _ G4.out ?_
      clear hK hg4 hown4 hv4 hwd4
      try simp only [Act.put, List.setIfInBounds_toArray, List.set_cons_zero, List.set_cons_succ]
      refine lext_nil ?_
      simp only [List.drop_succ_cons, List.drop_zero]
      go_wp2_with fail
      go_at_call 89
      refine made_any _ ls r4 _ w4 (Rd.own_from HO4.out) WD4.out (by omega) ?_
      intro r w5 hg5 hr
      rw [HS4.out, vw_wds, vw_wds, sg_add HP.out HQ0.out] at hr
      have hb3 := K2.out w5 (G4.out.tr hg5)
      have G5 := Lib.hid (G4.out.tr hg5)
      clear hg5
      obtain ⟨hk3, m3, rfl, hm3⟩ := hr
      obtain ⟨A3, c3, rfl, g31, g32⟩ := rd_slice hm3
      have HM3 := Lib.hid hm3
      generalize hn3 : (wds ((x + y)).natAbs).length = n3 at *
      have HN3 := Lib.hid hn3
      have HK3 := Lib.hid hk3
      clear hm3 hk3 hn3
      generalize hq : decide ((x + y) < 0) = q3 at *
      have HQ := Lib.hid hq
      clear hq
      have c0 := cell_of_row _ (w.heap.size + 1 + 1) 0 _ _ (0, 0) hb3
      have f0 := frozen_of_row _ (w.heap.size + 1 + 1) 0 _ _ hb3
      have b1 := blk_set hb3 0 (.bool q3)
      have c1 := cell_of_row _ (w.heap.size + 1 + 1) 1 _ _ (0, 0) b1
      have f1 := frozen_of_row _ (w.heap.size + 1 + 1) 1 _ _ b1
      have b2 := blk_set b1 1 (.slice A3 n3 c3)
      have r0 := cell_of_row _ (w.heap.size + 1 + 1) 0 _ _ (0, 0) b2
      have r1 := cell_of_row _ (w.heap.size + 1 + 1) 1 _ _ (0, 0) b2
      simp only [List.setIfInBounds_toArray, List.set_cons_zero, List.set_cons_succ] at c0 c1 r0 r1
      clear b1 b2
      clear hb3
      go_wp2
      refine bodyPost_ret (v := .agg #[.bool q3, .slice A3 n3 c3]) (by simp [results, Try.f60, go_sem, r0, r1]) rfl (HR.out _ _ ?_ ?_)
      · exact grow_set2 (by omega) (GA.out.tr G5.out) _ _
      · refine ⟨KB.out _ (Int.natAbs_add_le x y), _, by rw [HQ.out], ?_⟩
        rw [HN3.out]
        exact ((HM3.out.set (fun b hb => by have := SZ4.out b hb.1; omega) _).set (fun b hb => by have := SZ4.out b hb.1; omega) _).into fun b hb => by have := SZ4.out b hb.1; omega
    | true =>
      go_enter Try.func60, Try.ntmps60
      go_wp2_with fail
      rw [← hwa]
      clear hwa
      have HWW := Lib.hid (Grow.refl wa)
      refine wp_region_lexT (Grow wa) (HWW.out.dr) 7 [0, 1, 2, 3, 4, 5, 6] (by kernel_rfl) (by kernel_rfl) (by intro c a d v w h; cases d <;> exact h) ?_
      iterate 6 (apply lext_take; exact rfl; exact rfl; (intro W hW; have z0 := cell_of_row _ w.heap.size 0 _ _ (0, 0) (K0.out _ hW); have z1 := cell_of_row _ w.heap.size 1 _ _ (0, 0) (K0.out _ hW); have y0 := cell_of_row _ (w.heap.size + 1) 0 _ _ (0, 0) (K1.out _ hW); have y1 := cell_of_row _ (w.heap.size + 1) 1 _ _ (0, 0) (K1.out _ hW); (try clear hW); go_simp; with_reducible rfl); try simp only [Act.put, List.setIfInBounds_toArray, List.set_cons_zero, List.set_cons_succ])
      apply lext_turn; exact rfl; exact rfl; exact rfl; intro K hK; go_simp; go_at_call 90; refine PL.out _ (GA.out.tr HWW.out.dr) _ ?_; intro r4 ls w4 hown4 hwd4 hv4 hl4 hg4
      have G4 := Lib.hid (HWW.out.dr.tr hg4)
      have HO4 := Lib.hid hown4
      have HS4 := Lib.hid hv4
      have WD4 := Lib.hid hwd4
      have SZ4 : Hid (∀ b, (wa).heap.size ≤ b → w.heap.size + 3 ≤ b) := fun b hb => by have := HWW.out.size; have := GS.out; omega
      refine hK.out _ _ G4.out ?_
      clear hK hg4 hown4 hv4 hwd4
      try simp only [Act.put, List.setIfInBounds_toArray, List.set_cons_zero, List.set_cons_succ]
      refine lext_nil ?_
      simp only [List.drop_succ_cons, List.drop_zero]
      go_wp2_with fail
      go_at_call 89
      refine made_any _ ls r4 _ w4 (Rd.own_from HO4.out) WD4.out (by omega) ?_
      intro r w5 hg5 hr
      rw [HS4.out, vw_wds, vw_wds, sg_add HP.out HQ0.out] at hr
      have hb3 := K2.out w5 (G4.out.tr hg5)
      have G5 := Lib.hid (G4.out.tr hg5)
      clear hg5
      obtain ⟨hk3, m3, rfl, hm3⟩ := hr
      obtain ⟨A3, c3, rfl, g31, g32⟩ := rd_slice hm3
      have HM3 := Lib.hid hm3
      generalize hn3 : (wds ((x + y)).natAbs).length = n3 at *
      have HN3 := Lib.hid hn3
      have HK3 := Lib.hid hk3
      clear hm3 hk3 hn3
      generalize hq : decide ((x + y) < 0) = q3 at *
      have HQ := Lib.hid hq
      clear hq
      have c0 := cell_of_row _ (w.heap.size + 1 + 1) 0 _ _ (0, 0) hb3
      have f0 := frozen_of_row _ (w.heap.size + 1 + 1) 0 _ _ hb3
      have b1 := blk_set hb3 0 (.bool q3)
      have c1 := cell_of_row _ (w.heap.size + 1 + 1) 1 _ _ (0, 0) b1
      have f1 := frozen_of_row _ (w.heap.size + 1 + 1) 1 _ _ b1
      have b2 := blk_set b1 1 (.slice A3 n3 c3)
      have r0 := cell_of_row _ (w.heap.size + 1 + 1) 0 _ _ (0, 0) b2
      have r1 := cell_of_row _ (w.heap.size + 1 + 1) 1 _ _ (0, 0) b2
      simp only [List.setIfInBounds_toArray, List.set_cons_zero, List.set_cons_succ] at c0 c1 r0 r1
      clear b1 b2
      clear hb3
      go_wp2
      refine bodyPost_ret (v := .agg #[.bool q3, .slice A3 n3 c3]) (by simp [results, Try.f60, go_sem, r0, r1]) rfl (HR.out _ _ ?_ ?_)
      · exact grow_set2 (by omega) (GA.out.tr G5.out) _ _
      · refine ⟨KB.out _ (Int.natAbs_add_le x y), _, by rw [HQ.out], ?_⟩
        rw [HN3.out]
        exact ((HM3.out.set (fun b hb => by have := SZ4.out b hb.1; omega) _).set (fun b hb => by have := SZ4.out b hb.1; omega) _).into fun b hb => by have := SZ4.out b hb.1; omega
  · have hne := Lib.hid hpq
    by_cases hlt : x.natAbs < y.natAbs
    · have SZ := Lib.hid fun W h (R : Ending → World → Prop) (hR : ∀ w', Grow W w' → R (.returned (.int .i64 (-1))) w') => SZ.out W h R (by rw [if_pos hlt]; exact hR)
      have LE2 := Lib.hid (LE2.out (Nat.le_of_lt hlt))
      have E := Lib.hid ((sg_sub HQ0.out HP.out (fun e => hne.out e.symm) (Nat.le_of_lt hlt)).trans (Int.add_comm _ _))
      clear hlt hpq
      cases p with
      | false =>
        cases q with
        | false => exact absurd rfl hne.out
        | true =>
          go_enter Try.func60, Try.ntmps60
          go_wp2_with fail
          rw [← hwa]
          clear hwa
          go_at_call 91
          refine SZ.out _ GA.out _ ?_
          intro ww hww
          have HWW := Lib.hid hww
          clear hww
          go_wp2_with fail
          refine wp_region_lexT (Grow wa) (HWW.out.dr) 7 [0, 1, 2, 3, 4, 5, 6] (by kernel_rfl) (by kernel_rfl) (by intro c a d v w h; cases d <;> exact h) ?_
          iterate 6 (apply lext_take; exact rfl; exact rfl; (intro W hW; have z0 := cell_of_row _ w.heap.size 0 _ _ (0, 0) (K0.out _ hW); have z1 := cell_of_row _ w.heap.size 1 _ _ (0, 0) (K0.out _ hW); have y0 := cell_of_row _ (w.heap.size + 1) 0 _ _ (0, 0) (K1.out _ hW); have y1 := cell_of_row _ (w.heap.size + 1) 1 _ _ (0, 0) (K1.out _ hW); (try clear hW); go_simp; with_reducible rfl); try simp only [Act.put, List.setIfInBounds_toArray, List.set_cons_zero, List.set_cons_succ])
          apply lext_turn; exact rfl; exact rfl; exact rfl; intro K hK; go_simp; go_at_call 92; refine LE2.out _ (GA.out.tr HWW.out.dr) _ ?_; intro r4 ls w4 hown4 hwd4 hv4 hl4 hg4
          have G4 := Lib.hid (HWW.out.dr.tr hg4)
          have HO4 := Lib.hid hown4
          have HS4 := Lib.hid hv4
          have WD4 := Lib.hid hwd4
          have SZ4 : Hid (∀ b, (ww).heap.size ≤ b → w.heap.size + 3 ≤ b) := fun b hb => by have := HWW.out.size; have := GS.out; omega
          refine hK.out _ _ G4.out ?_
          clear hK hg4 hown4 hv4 hwd4
          try simp only [Act.put, List.setIfInBounds_toArray, List.set_cons_zero, List.set_cons_succ]
          refine lext_nil ?_
          simp only [List.drop_succ_cons, List.drop_zero]
          go_wp2_with fail
          go_at_call 89
          refine made_any _ ls r4 _ w4 (Rd.own_from HO4.out) WD4.out (by omega) ?_
          intro r w5 hg5 hr
          rw [HS4.out, vw_wds, vw_wds, E.out] at hr
          have hb3 := K2.out w5 (G4.out.tr hg5)
          have G5 := Lib.hid (G4.out.tr hg5)
          clear hg5
          obtain ⟨hk3, m3, rfl, hm3⟩ := hr
          obtain ⟨A3, c3, rfl, g31, g32⟩ := rd_slice hm3
          have HM3 := Lib.hid hm3
          generalize hn3 : (wds ((x + y)).natAbs).length = n3 at *
          have HN3 := Lib.hid hn3
          have HK3 := Lib.hid hk3
          clear hm3 hk3 hn3
          generalize hq : decide ((x + y) < 0) = q3 at *
          have HQ := Lib.hid hq
          clear hq
          have c0 := cell_of_row _ (w.heap.size + 1 + 1) 0 _ _ (0, 0) hb3
          have f0 := frozen_of_row _ (w.heap.size + 1 + 1) 0 _ _ hb3
          have b1 := blk_set hb3 0 (.bool q3)
          have c1 := cell_of_row _ (w.heap.size + 1 + 1) 1 _ _ (0, 0) b1
          have f1 := frozen_of_row _ (w.heap.size + 1 + 1) 1 _ _ b1
          have b2 := blk_set b1 1 (.slice A3 n3 c3)
          have r0 := cell_of_row _ (w.heap.size + 1 + 1) 0 _ _ (0, 0) b2
          have r1 := cell_of_row _ (w.heap.size + 1 + 1) 1 _ _ (0, 0) b2
          simp only [List.setIfInBounds_toArray, List.set_cons_zero, List.set_cons_succ] at c0 c1 r0 r1
          clear b1 b2
          clear hb3
          go_wp2
          refine bodyPost_ret (v := .agg #[.bool q3, .slice A3 n3 c3]) (by simp [results, Try.f60, go_sem, r0, r1]) rfl (HR.out _ _ ?_ ?_)
          · exact grow_set2 (by omega) (GA.out.tr G5.out) _ _
          · refine ⟨KB.out _ (Int.natAbs_add_le x y), _, by rw [HQ.out], ?_⟩
            rw [HN3.out]
            exact ((HM3.out.set (fun b hb => by have := SZ4.out b hb.1; omega) _).set (fun b hb => by have := SZ4.out b hb.1; omega) _).into fun b hb => by have := SZ4.out b hb.1; omega
      | true =>
        cases q with
        | true => exact absurd rfl hne.out
        | false =>
          go_enter Try.func60, Try.ntmps60
          go_wp2_with fail
          rw [← hwa]
          clear hwa
          go_at_call 91
          refine SZ.out _ GA.out _ ?_
          intro ww hww
          have HWW := Lib.hid hww
          clear hww
          go_wp2_with fail
          refine wp_region_lexT (Grow wa) (HWW.out.dr) 7 [0, 1, 2, 3, 4, 5, 6] (by kernel_rfl) (by kernel_rfl) (by intro c a d v w h; cases d <;> exact h) ?_
          iterate 6 (apply lext_take; exact rfl; exact rfl; (intro W hW; have z0 := cell_of_row _ w.heap.size 0 _ _ (0, 0) (K0.out _ hW); have z1 := cell_of_row _ w.heap.size 1 _ _ (0, 0) (K0.out _ hW); have y0 := cell_of_row _ (w.heap.size + 1) 0 _ _ (0, 0) (K1.out _ hW); have y1 := cell_of_row _ (w.heap.size + 1) 1 _ _ (0, 0) (K1.out _ hW); (try clear hW); go_simp; with_reducible rfl); try simp only [Act.put, List.setIfInBounds_toArray, List.set_cons_zero, List.set_cons_succ])
          apply lext_turn; exact rfl; exact rfl; exact rfl; intro K hK; go_simp; go_at_call 92; refine LE2.out _ (GA.out.tr HWW.out.dr) _ ?_; intro r4 ls w4 hown4 hwd4 hv4 hl4 hg4
          have G4 := Lib.hid (HWW.out.dr.tr hg4)
          have HO4 := Lib.hid hown4
          have HS4 := Lib.hid hv4
          have WD4 := Lib.hid hwd4
          have SZ4 : Hid (∀ b, (ww).heap.size ≤ b → w.heap.size + 3 ≤ b) := fun b hb => by have := HWW.out.size; have := GS.out; omega
          refine hK.out _ _ G4.out ?_
          clear hK hg4 hown4 hv4 hwd4
          try simp only [Act.put, List.setIfInBounds_toArray, List.set_cons_zero, List.set_cons_succ]
          refine lext_nil ?_
          simp only [List.drop_succ_cons, List.drop_zero]
          go_wp2_with fail
          go_at_call 89
          refine made_any _ ls r4 _ w4 (Rd.own_from HO4.out) WD4.out (by omega) ?_
          intro r w5 hg5 hr
          rw [HS4.out, vw_wds, vw_wds, E.out] at hr
          have hb3 := K2.out w5 (G4.out.tr hg5)
          have G5 := Lib.hid (G4.out.tr hg5)
          clear hg5
          obtain ⟨hk3, m3, rfl, hm3⟩ := hr
          obtain ⟨A3, c3, rfl, g31, g32⟩ := rd_slice hm3
          have HM3 := Lib.hid hm3
          generalize hn3 : (wds ((x + y)).natAbs).length = n3 at *
          have HN3 := Lib.hid hn3
          have HK3 := Lib.hid hk3
          clear hm3 hk3 hn3
          generalize hq : decide ((x + y) < 0) = q3 at *
          have HQ := Lib.hid hq
          clear hq
          have c0 := cell_of_row _ (w.heap.size + 1 + 1) 0 _ _ (0, 0) hb3
          have f0 := frozen_of_row _ (w.heap.size + 1 + 1) 0 _ _ hb3
          have b1 := blk_set hb3 0 (.bool q3)
          have c1 := cell_of_row _ (w.heap.size + 1 + 1) 1 _ _ (0, 0) b1
          have f1 := frozen_of_row _ (w.heap.size + 1 + 1) 1 _ _ b1
          have b2 := blk_set b1 1 (.slice A3 n3 c3)
          have r0 := cell_of_row _ (w.heap.size + 1 + 1) 0 _ _ (0, 0) b2
          have r1 := cell_of_row _ (w.heap.size + 1 + 1) 1 _ _ (0, 0) b2
          simp only [List.setIfInBounds_toArray, List.set_cons_zero, List.set_cons_succ] at c0 c1 r0 r1
          clear b1 b2
          clear hb3
          go_wp2
          refine bodyPost_ret (v := .agg #[.bool q3, .slice A3 n3 c3]) (by simp [results, Try.f60, go_sem, r0, r1]) rfl (HR.out _ _ ?_ ?_)
          · exact grow_set2 (by omega) (GA.out.tr G5.out) _ _
          · refine ⟨KB.out _ (Int.natAbs_add_le x y), _, by rw [HQ.out], ?_⟩
            rw [HN3.out]
            exact ((HM3.out.set (fun b hb => by have := SZ4.out b hb.1; omega) _).set (fun b hb => by have := SZ4.out b hb.1; omega) _).into fun b hb => by have := SZ4.out b hb.1; omega
    · obtain ⟨z, hz, hz0⟩ : ∃ z : Int, (if x.natAbs < y.natAbs then (-1 : Int) else if y.natAbs < x.natAbs then 1 else 0) = z ∧ 0 ≤ z := ⟨_, rfl, by rw [if_neg hlt]; split <;> omega⟩
      have SZ := Lib.hid fun W h (R : Ending → World → Prop) (hR : ∀ w', Grow W w' → R (.returned (.int .i64 z)) w') => SZ.out W h R (by rw [hz]; exact hR)
      have t0 : decide (0 ≤ z) = true := by simp [hz0]
      have LE1 := Lib.hid (LE1.out (Nat.le_of_not_lt hlt))
      have E := Lib.hid (sg_sub HP.out HQ0.out hne.out (Nat.le_of_not_lt hlt))
      clear hlt hpq hz hz0
      cases p with
      | false =>
        cases q with
        | false => exact absurd rfl hne.out
        | true =>
          go_enter Try.func60, Try.ntmps60
          go_wp2_with fail
          rw [← hwa]
          clear hwa
          go_at_call 91
          refine SZ.out _ GA.out _ ?_
          intro ww hww
          have HWW := Lib.hid hww
          clear hww
          go_wp2_with fail
          refine wp_region_lexT (Grow wa) (HWW.out.dr) 7 [0, 1, 2, 3, 4, 5, 6] (by kernel_rfl) (by kernel_rfl) (by intro c a d v w h; cases d <;> exact h) ?_
          iterate 6 (apply lext_take; exact rfl; exact rfl; (intro W hW; have z0 := cell_of_row _ w.heap.size 0 _ _ (0, 0) (K0.out _ hW); have z1 := cell_of_row _ w.heap.size 1 _ _ (0, 0) (K0.out _ hW); have y0 := cell_of_row _ (w.heap.size + 1) 0 _ _ (0, 0) (K1.out _ hW); have y1 := cell_of_row _ (w.heap.size + 1) 1 _ _ (0, 0) (K1.out _ hW); (try clear hW); go_simp; with_reducible rfl); try simp only [Act.put, List.setIfInBounds_toArray, List.set_cons_zero, List.set_cons_succ])
          apply lext_turn; exact rfl; exact rfl; exact rfl; intro K hK; go_simp; go_at_call 92; refine LE1.out _ (GA.out.tr HWW.out.dr) _ ?_; intro r4 ls w4 hown4 hwd4 hv4 hl4 hg4
          have G4 := Lib.hid (HWW.out.dr.tr hg4)
          have HO4 := Lib.hid hown4
          have HS4 := Lib.hid hv4
          have WD4 := Lib.hid hwd4
          have SZ4 : Hid (∀ b, (ww).heap.size ≤ b → w.heap.size + 3 ≤ b) := fun b hb => by have := HWW.out.size; have := GS.out; omega
          refine hK.out _ _ G4.out ?_
          clear hK hg4 hown4 hv4 hwd4
          try simp only [Act.put, List.setIfInBounds_toArray, List.set_cons_zero, List.set_cons_succ]
          refine lext_nil ?_
          simp only [List.drop_succ_cons, List.drop_zero]
          go_wp2_with fail
          go_at_call 89
          refine made_any _ ls r4 _ w4 (Rd.own_from HO4.out) WD4.out (by omega) ?_
          intro r w5 hg5 hr
          rw [HS4.out, vw_wds, vw_wds, E.out] at hr
          have hb3 := K2.out w5 (G4.out.tr hg5)
          have G5 := Lib.hid (G4.out.tr hg5)
          clear hg5
          obtain ⟨hk3, m3, rfl, hm3⟩ := hr
          obtain ⟨A3, c3, rfl, g31, g32⟩ := rd_slice hm3
          have HM3 := Lib.hid hm3
          generalize hn3 : (wds ((x + y)).natAbs).length = n3 at *
          have HN3 := Lib.hid hn3
          have HK3 := Lib.hid hk3
          clear hm3 hk3 hn3
          generalize hq : decide ((x + y) < 0) = q3 at *
          have HQ := Lib.hid hq
          clear hq
          have c0 := cell_of_row _ (w.heap.size + 1 + 1) 0 _ _ (0, 0) hb3
          have f0 := frozen_of_row _ (w.heap.size + 1 + 1) 0 _ _ hb3
          have b1 := blk_set hb3 0 (.bool q3)
          have c1 := cell_of_row _ (w.heap.size + 1 + 1) 1 _ _ (0, 0) b1
          have f1 := frozen_of_row _ (w.heap.size + 1 + 1) 1 _ _ b1
          have b2 := blk_set b1 1 (.slice A3 n3 c3)
          have r0 := cell_of_row _ (w.heap.size + 1 + 1) 0 _ _ (0, 0) b2
          have r1 := cell_of_row _ (w.heap.size + 1 + 1) 1 _ _ (0, 0) b2
          simp only [List.setIfInBounds_toArray, List.set_cons_zero, List.set_cons_succ] at c0 c1 r0 r1
          clear b1 b2
          clear hb3
          go_wp2
          refine bodyPost_ret (v := .agg #[.bool q3, .slice A3 n3 c3]) (by simp [results, Try.f60, go_sem, r0, r1]) rfl (HR.out _ _ ?_ ?_)
          · exact grow_set2 (by omega) (GA.out.tr G5.out) _ _
          · refine ⟨KB.out _ (Int.natAbs_add_le x y), _, by rw [HQ.out], ?_⟩
            rw [HN3.out]
            exact ((HM3.out.set (fun b hb => by have := SZ4.out b hb.1; omega) _).set (fun b hb => by have := SZ4.out b hb.1; omega) _).into fun b hb => by have := SZ4.out b hb.1; omega
      | true =>
        cases q with
        | true => exact absurd rfl hne.out
        | false =>
          go_enter Try.func60, Try.ntmps60
          go_wp2_with fail
          rw [← hwa]
          clear hwa
          go_at_call 91
          refine SZ.out _ GA.out _ ?_
          intro ww hww
          have HWW := Lib.hid hww
          clear hww
          go_wp2_with fail
          refine wp_region_lexT (Grow wa) (HWW.out.dr) 7 [0, 1, 2, 3, 4, 5, 6] (by kernel_rfl) (by kernel_rfl) (by intro c a d v w h; cases d <;> exact h) ?_
          iterate 6 (apply lext_take; exact rfl; exact rfl; (intro W hW; have z0 := cell_of_row _ w.heap.size 0 _ _ (0, 0) (K0.out _ hW); have z1 := cell_of_row _ w.heap.size 1 _ _ (0, 0) (K0.out _ hW); have y0 := cell_of_row _ (w.heap.size + 1) 0 _ _ (0, 0) (K1.out _ hW); have y1 := cell_of_row _ (w.heap.size + 1) 1 _ _ (0, 0) (K1.out _ hW); (try clear hW); go_simp; with_reducible rfl); try simp only [Act.put, List.setIfInBounds_toArray, List.set_cons_zero, List.set_cons_succ])
          apply lext_turn; exact rfl; exact rfl; exact rfl; intro K hK; go_simp; go_at_call 92; refine LE1.out _ (GA.out.tr HWW.out.dr) _ ?_; intro r4 ls w4 hown4 hwd4 hv4 hl4 hg4
          have G4 := Lib.hid (HWW.out.dr.tr hg4)
          have HO4 := Lib.hid hown4
          have HS4 := Lib.hid hv4
          have WD4 := Lib.hid hwd4
          have SZ4 : Hid (∀ b, (ww).heap.size ≤ b → w.heap.size + 3 ≤ b) := fun b hb => by have := HWW.out.size; have := GS.out; omega
          refine hK.out _ _ G4.out ?_
          clear hK hg4 hown4 hv4 hwd4
          try simp only [Act.put, List.setIfInBounds_toArray, List.set_cons_zero, List.set_cons_succ]
          refine lext_nil ?_
          simp only [List.drop_succ_cons, List.drop_zero]
          go_wp2_with fail
          go_at_call 89
          refine made_any _ ls r4 _ w4 (Rd.own_from HO4.out) WD4.out (by omega) ?_
          intro r w5 hg5 hr
          rw [HS4.out, vw_wds, vw_wds, E.out] at hr
          have hb3 := K2.out w5 (G4.out.tr hg5)
          have G5 := Lib.hid (G4.out.tr hg5)
          clear hg5
          obtain ⟨hk3, m3, rfl, hm3⟩ := hr
          obtain ⟨A3, c3, rfl, g31, g32⟩ := rd_slice hm3
          have HM3 := Lib.hid hm3
          generalize hn3 : (wds ((x + y)).natAbs).length = n3 at *
          have HN3 := Lib.hid hn3
          have HK3 := Lib.hid hk3
          clear hm3 hk3 hn3
          generalize hq : decide ((x + y) < 0) = q3 at *
          have HQ := Lib.hid hq
          clear hq
          have c0 := cell_of_row _ (w.heap.size + 1 + 1) 0 _ _ (0, 0) hb3
          have f0 := frozen_of_row _ (w.heap.size + 1 + 1) 0 _ _ hb3
          have b1 := blk_set hb3 0 (.bool q3)
          have c1 := cell_of_row _ (w.heap.size + 1 + 1) 1 _ _ (0, 0) b1
          have f1 := frozen_of_row _ (w.heap.size + 1 + 1) 1 _ _ b1
          have b2 := blk_set b1 1 (.slice A3 n3 c3)
          have r0 := cell_of_row _ (w.heap.size + 1 + 1) 0 _ _ (0, 0) b2
          have r1 := cell_of_row _ (w.heap.size + 1 + 1) 1 _ _ (0, 0) b2
          simp only [List.setIfInBounds_toArray, List.set_cons_zero, List.set_cons_succ] at c0 c1 r0 r1
          clear b1 b2
          clear hb3
          go_wp2
          refine bodyPost_ret (v := .agg #[.bool q3, .slice A3 n3 c3]) (by simp [results, Try.f60, go_sem, r0, r1]) rfl (HR.out _ _ ?_ ?_)
          · exact grow_set2 (by omega) (GA.out.tr G5.out) _ _
          · refine ⟨KB.out _ (Int.natAbs_add_le x y), _, by rw [HQ.out], ?_⟩
            rw [HN3.out]
            exact ((HM3.out.set (fun b hb => by have := SZ4.out b hb.1; omega) _).set (fun b hb => by have := SZ4.out b hb.1; omega) _).into fun b hb => by have := SZ4.out b hb.1; omega
end Go.Proofs.Ytjcgkhcbdbbdkaa
