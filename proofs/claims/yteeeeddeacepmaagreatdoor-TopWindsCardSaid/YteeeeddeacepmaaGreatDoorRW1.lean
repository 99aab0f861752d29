import Derived.Test.YteeeeddeacepmaaGreatDoorRWP
namespace Go.Proofs.YteeeeddeacepmaaGreatDoor
set_option maxRecDepth 100000
open Go.RowKit Go.Lib B
theorem RV.at_ {r : RV} {W : World} {b : Nat} {t : TypeId} {fr : Nat × Nat} (h : W.heap[b]? = some (.cells r.cells.toArray t fr)) :
  W.cell? ⟨b, 0, none⟩ = some (.bool r.nu.p) /\ W.cell? ⟨b, 1, none⟩ = some (.slice r.nu.A r.nu.n r.nu.c) /\ W.cell? ⟨b, 2, none⟩ = some (.bool r.de.p) /\ W.cell? ⟨b, 3, none⟩ = some (.slice r.de.A r.de.n r.de.c) := by
 refine ⟨?_, ?_, ?_, ?_⟩ <;> (rw [cell_of_row _ _ _ _ _ _ h]; rfl)
set_option maxHeartbeats 4000000 in
theorem side_any (p q s : PV) (k : Nat) (S T : Nat -> Prop) (w : World) (hp : p.rd w S k) (hq : q.rd w S k) (hs : s.rd w T k) (hk : k <= 1500) {R : Ending -> World -> Prop}
  (hR : ∀ w', Grow w w' -> R (.returned (.int .i64 (sideIQ p.q q.q s.q))) w') :
  Calls Tryz.prog 32 #[.agg p.cells.toArray, .agg q.cells.toArray, .agg s.cells.toArray] w R := by
 have HR := Lh hR; clear hR; have HP := Lh hp; have HQ := Lh hq; have HS := Lh hs; have HK := Lh hk; clear hp hq hs hk
 obtain ⟨wa, hwa⟩ : ∃ wa, wa = ((w.alloc (.cells p.cells.toArray 44)).alloc (.cells q.cells.toArray 44)).alloc (.cells s.cells.toArray 44) := ⟨_, rfl⟩
 have GA : Hid (Grow w wa) := by subst hwa; exact (((Grow.refl w).al _).al _).al _
 have FP : Hid (wa.heap[w.heap.size]? = some (.cells p.cells.toArray 44 (0, 0))) := by
  subst hwa; exact blk_al w _ _ (((Grow.refl _).al _).al _)
 have FQ : Hid (wa.heap[w.heap.size + 1]? = some (.cells q.cells.toArray 44 (0, 0))) := by
  subst hwa; have := blk_al (w.alloc (.cells p.cells.toArray 44)) q.cells.toArray 44 ((Grow.refl _).al (.cells s.cells.toArray 44))
  rwa [World.size_alloc] at this
 have FS : Hid (wa.heap[w.heap.size + 1 + 1]? = some (.cells s.cells.toArray 44 (0, 0))) := by
  subst hwa; have := blk_al ((w.alloc (.cells p.cells.toArray 44)).alloc (.cells q.cells.toArray 44)) s.cells.toArray 44 (Grow.refl _)
  rwa [World.size_alloc, World.size_alloc] at this
 have HP := Lh (HP.out.gr GA.out); have HQ := Lh (HQ.out.gr GA.out); have HS := Lh (HS.out.gr GA.out); go_enter Tryz.func32, Tryz.ntmps32
 go_upto_region 1 with fail
 rw [<- hwa]; clear hwa; generalize w.heap.size = pb at *; refine wp_region_free1 ⟨11, some 7, 42, zeroRV.cells.toArray⟩ 12 [0, 1, 2, 3, 5, 6, 7, 8, 4, 9, 10] (by kernel_rfl) (by kernel_rfl) ⟨_, rfl, rfl, rfl, fun a W K h => by go_simp; exact h⟩ (by intro c a d v w h; cases d <;> exact h) rfl ?_; have GA := Lh GA.out.dr; have FP := Lh (grow_blk (Grow.refl wa).dr FP.out); have FQ := Lh (grow_blk (Grow.refl wa).dr FQ.out); have FS := Lh (grow_blk (Grow.refl wa).dr FS.out); have HP := Lh (HP.out.gr (Grow.refl _).dr); have HQ := Lh (HQ.out.gr (Grow.refl _).dr)
 have HS := Lh (HS.out.gr (Grow.refl _).dr); have GB : Hid (Grow (wa).drew (wa).drew) := Grow.refl _; have EW : Hid ((wa).drew.heap.size = (wa).heap.size) := rfl; generalize (wa).drew = wb at *
 iterate 8
  apply fr1_take; exact rfl; (simp); (intro x1; exact rfl)
  ·intro x1 W' hW
   obtain ⟨z0, z1, z2, z3, z4, z5, z6, z7⟩ := PV.at_ (grow_blk hW FP.out); obtain ⟨y0, y1, y2, y3, y4, y5, y6, y7⟩ := PV.at_ (grow_blk hW FQ.out); obtain ⟨v0, v1, v2, v3, v4, v5, v6, v7⟩ := PV.at_ (grow_blk hW FS.out); clear hW; simp only [Act.put, sA, sZ, sS]
   go_simp
   with_reducible rfl
  simp only [Act.put, sA, sZ, sS]
 apply fr1_turn; exact rfl; exact rfl; (simp); (intro x1; exact rfl); intro x1 W5 hW K hK; simp only [Act.put, sA, sZ, sS]
 go_simp
 go_at_call 48; refine minus_q q.x p.x k k _ _ W5 (HQ.out.1.gr (GB.out.tr hW)) (HP.out.1.gr (GB.out.tr hW)) (by have := HK.out; omega) (by have := HK.out; omega) ?_; intro rc w1 hg hq1 hr1; have RC := Lh hr1; have QC := Lh hq1; clear hq1 hr1; have GB := Lh (GB.out.tr (hW.tr hg)); refine hK.out _ _ hg ?_; clear hK hW hg; simp only [Act.put, sA, sZ, sS]; apply fr1_turn; exact rfl; exact rfl; (simp); (intro x1; exact rfl); intro x1 W5 hW K hK
 simp only [Act.put, sA, sZ, sS]
 go_simp
 go_at_call 48; refine minus_q s.y p.y k k _ _ W5 (HS.out.2.gr (GB.out.tr hW)) (HP.out.2.gr (GB.out.tr hW)) (by have := HK.out; omega) (by have := HK.out; omega) ?_; intro re w3 hg hq3 hr3; have RC := Lh (RC.out.gr (hW.tr hg)); have RE := Lh hr3; have QE := Lh hq3; clear hq3 hr3; have GB := Lh (GB.out.tr (hW.tr hg)); refine hK.out _ _ hg ?_; clear hK hW hg; simp only [Act.put, sA, sZ, sS]; apply fr1_turn; exact rfl; exact rfl; (simp); (intro x1; exact rfl); intro x1 W5 hW K hK
 simp only [Act.put, sA, sZ, sS]
 go_simp
 go_at_call 47; refine times_q rc re (k + k + 1) (k + k + 1) _ _ W5 (RC.out.gr hW) (RE.out.gr hW) (by have := HK.out; omega) (by have := HK.out; omega) ?_; intro rt w4 hg hq4 hr4; have LT : Hid (wb.heap.size <= W5.heap.size) := (GB.out.tr hW).size; have RTT := Lh (hr4.into (T := fun b => wb.heap.size <= b) fun b hb => by have := LT.out; omega); have QX : Hid (rt.q = (q.x.q - p.x.q) * (s.y.q - p.y.q)) := by show _ = _; rw [hq4, QC.out, QE.out]
 clear hq4 hr4 RC RE LT QC QE; have GB := Lh (GB.out.tr (hW.tr hg)); refine hK.out _ _ hg ?_; clear hK hW hg; simp only [Act.put, sA, sZ, sS]; refine fr1_nil ?_; intro tb1 V hV hb; have RTT := Lh (RTT.out.gr hV); have GV := Lh (GB.out.tr hV); have FT : Hid (V.heap[tb1]? = some (.cells zeroRV.cells.toArray 42 (0, 0))) := hb.1; have LB : Hid (wb.heap.size <= tb1) := by show _ <= _; rw [EW.out]; exact hb.2.1
 clear hV hb GB; unfold ptrTo; simp only [Act.put, sA, sZ, sS, List.drop_succ_cons, List.drop_zero]; have RTN : Hid (rt.rd (V.setRow tb1 rt.cells.toArray) (fun b => wb.heap.size <= b) (4 * k + 2)) := ((RTT.out.row ⟨_, _, _, FT.out, RV.noint _⟩ _)).up (by omega); have GN : Hid (Grow wb (V.setRow tb1 rt.cells.toArray)) := GV.out.row LB.out _; have FTN : Hid ((V.setRow tb1 rt.cells.toArray).heap[tb1]? = some (.cells rt.cells.toArray 42 (0, 0))) := setRow_heap _ _ _ _ _ _ FT.out
 go_upto_region 2 with (refine wpList_store_row rfl 42 _ _ rfl tb1 rt.cells.toArray rfl rfl 42 _ FT.out (by kernel_rfl) rfl (RV.one _) ?_)
 generalize V.setRow tb1 rt.cells.toArray = w5 at *; have FP := Lh (grow_blk GN.out FP.out); have FQ := Lh (grow_blk GN.out FQ.out); have FS := Lh (grow_blk GN.out FS.out); have HP := Lh (HP.out.gr GN.out); have HQ := Lh (HQ.out.gr GN.out); have HS := Lh (HS.out.gr GN.out); have GA := Lh (GA.out.tr GN.out); clear FT RTT GV LB EW; have RX := Lh (RTN.out.gr (Grow.refl _).dr); have FX := Lh (grow_blk (Grow.refl _).dr FTN.out); clear RTN FTN GN; generalize rt = rx at *
 refine wp_region_free1 ⟨11, some 8, 42, zeroRV.cells.toArray⟩ 12 [0, 1, 2, 3, 5, 6, 7, 8, 4, 9, 10] (by kernel_rfl) (by kernel_rfl) ⟨_, rfl, rfl, rfl, fun a W K h => by go_simp; exact h⟩ (by intro c a d v w h; cases d <;> exact h) rfl ?_; have GA := Lh GA.out.dr; have FP := Lh (grow_blk (Grow.refl w5).dr FP.out); have FQ := Lh (grow_blk (Grow.refl w5).dr FQ.out); have FS := Lh (grow_blk (Grow.refl w5).dr FS.out); have HP := Lh (HP.out.gr (Grow.refl _).dr); have HQ := Lh (HQ.out.gr (Grow.refl _).dr); have HS := Lh (HS.out.gr (Grow.refl _).dr)
 have GB : Hid (Grow (w5).drew (w5).drew) := Grow.refl _; have EW : Hid ((w5).drew.heap.size = (w5).heap.size) := rfl; generalize (w5).drew = wb at *
 iterate 8
  apply fr1_take; exact rfl; (simp); (intro x1; exact rfl)
  ·intro x1 W' hW
   obtain ⟨z0, z1, z2, z3, z4, z5, z6, z7⟩ := PV.at_ (grow_blk hW FP.out); obtain ⟨y0, y1, y2, y3, y4, y5, y6, y7⟩ := PV.at_ (grow_blk hW FQ.out); obtain ⟨v0, v1, v2, v3, v4, v5, v6, v7⟩ := PV.at_ (grow_blk hW FS.out); clear hW; simp only [Act.put, sA, sZ, sS]
   go_simp
   with_reducible rfl
  simp only [Act.put, sA, sZ, sS]
 apply fr1_turn; exact rfl; exact rfl; (simp); (intro x1; exact rfl); intro x1 W5 hW K hK; simp only [Act.put, sA, sZ, sS]
 go_simp
 go_at_call 48; refine minus_q q.y p.y k k _ _ W5 (HQ.out.2.gr (GB.out.tr hW)) (HP.out.2.gr (GB.out.tr hW)) (by have := HK.out; omega) (by have := HK.out; omega) ?_; intro rc w1 hg hq1 hr1; have RC := Lh hr1; have QC := Lh hq1; clear hq1 hr1; have GB := Lh (GB.out.tr (hW.tr hg)); refine hK.out _ _ hg ?_; clear hK hW hg; simp only [Act.put, sA, sZ, sS]; apply fr1_turn; exact rfl; exact rfl; (simp); (intro x1; exact rfl); intro x1 W5 hW K hK
 simp only [Act.put, sA, sZ, sS]
 go_simp
 go_at_call 48; refine minus_q s.x p.x k k _ _ W5 (HS.out.1.gr (GB.out.tr hW)) (HP.out.1.gr (GB.out.tr hW)) (by have := HK.out; omega) (by have := HK.out; omega) ?_; intro re w3 hg hq3 hr3; have RC := Lh (RC.out.gr (hW.tr hg)); have RE := Lh hr3; have QE := Lh hq3; clear hq3 hr3; have GB := Lh (GB.out.tr (hW.tr hg)); refine hK.out _ _ hg ?_; clear hK hW hg; simp only [Act.put, sA, sZ, sS]; apply fr1_turn; exact rfl; exact rfl; (simp); (intro x1; exact rfl); intro x1 W5 hW K hK
 simp only [Act.put, sA, sZ, sS]
 go_simp
 go_at_call 47; refine times_q rc re (k + k + 1) (k + k + 1) _ _ W5 (RC.out.gr hW) (RE.out.gr hW) (by have := HK.out; omega) (by have := HK.out; omega) ?_; intro rt w4 hg hq4 hr4; have LT : Hid (wb.heap.size <= W5.heap.size) := (GB.out.tr hW).size; have RTT := Lh (hr4.into (T := fun b => wb.heap.size <= b) fun b hb => by have := LT.out; omega); have QY : Hid (rt.q = (q.y.q - p.y.q) * (s.x.q - p.x.q)) := by show _ = _; rw [hq4, QC.out, QE.out]
 clear hq4 hr4 RC RE LT QC QE; have GB := Lh (GB.out.tr (hW.tr hg)); refine hK.out _ _ hg ?_; clear hK hW hg; simp only [Act.put, sA, sZ, sS]; refine fr1_nil ?_; intro tb2 V hV hb; have RTT := Lh (RTT.out.gr hV); have GV := Lh (GB.out.tr hV); have FT : Hid (V.heap[tb2]? = some (.cells zeroRV.cells.toArray 42 (0, 0))) := hb.1; have LB : Hid (wb.heap.size <= tb2) := by show _ <= _; rw [EW.out]; exact hb.2.1
 clear hV hb GB; unfold ptrTo; simp only [Act.put, sA, sZ, sS, List.drop_succ_cons, List.drop_zero]; have RTN : Hid (rt.rd (V.setRow tb2 rt.cells.toArray) (fun b => wb.heap.size <= b) (4 * k + 2)) := ((RTT.out.row ⟨_, _, _, FT.out, RV.noint _⟩ _)).up (by omega); have GN : Hid (Grow wb (V.setRow tb2 rt.cells.toArray)) := GV.out.row LB.out _; have FTN : Hid ((V.setRow tb2 rt.cells.toArray).heap[tb2]? = some (.cells rt.cells.toArray 42 (0, 0))) := setRow_heap _ _ _ _ _ _ FT.out
 go_upto_region 3 with (refine wpList_store_row rfl 42 _ _ rfl tb2 rt.cells.toArray rfl rfl 42 _ FT.out (by kernel_rfl) rfl (RV.one _) ?_)
 generalize V.setRow tb2 rt.cells.toArray = w6 at *; have FP := Lh (grow_blk GN.out FP.out); have FQ := Lh (grow_blk GN.out FQ.out); have FS := Lh (grow_blk GN.out FS.out); have HP := Lh (HP.out.gr GN.out); have HQ := Lh (HQ.out.gr GN.out); have HS := Lh (HS.out.gr GN.out); have GA := Lh (GA.out.tr GN.out); clear FT RTT GV LB EW; have RX := Lh (RX.out.gr GN.out); have FX := Lh (grow_blk GN.out FX.out); clear FP FQ FS HP HQ HS GN
 go_wp2_with (first | (refine wpList_load_row rfl 42 _ rfl tb1 rfl 42 _ _ _ FX.out Tryz.underlying42 rfl (by kernel_rfl) ?_) | (refine wpList_load_row rfl 42 _ rfl tb2 rfl 42 _ _ _ FTN.out Tryz.underlying42 rfl (by kernel_rfl) ?_))
 go_at_call 13; refine order_q rx rt (4 * k + 2) (4 * k + 2) _ _ _ RX.out RTN.out (by have := HK.out; omega) (by have := HK.out; omega) ?_; intro w9 hg9; have GA := Lh (GA.out.tr hg9); clear hg9; have EV : Hid (cmpR rx.q rt.q = sideIQ p.q q.q s.q) := by show _ = _; rw [QX.out, QY.out]; rfl
 rw [EV.out]; go_wp2; exact HR.out _ GA.out
set_option maxHeartbeats 4000000 in
theorem within_any (a b n : RV) (k : Nat) (S T : Nat -> Prop) (w : World) (ha : a.rd w S k) (hb : b.rd w S k) (hn : n.rd w T k) (hk : k <= 10000) {R : Ending -> World -> Prop}
  (hR : ∀ w', Grow w w' -> R (.returned (.bool (withinQ a.q b.q n.q))) w') :
  Calls Tryz.prog 33 #[.agg a.cells.toArray, .agg b.cells.toArray, .agg n.cells.toArray] w R := by
 have HR1 : ∀ c, withinQ a.q b.q n.q = c -> ∀ w', Grow w w' -> R (.returned (.bool c)) w' := by rintro c rfl; exact hR
 have HR := Lh HR1; clear hR HR1
 obtain ⟨wa, hwa⟩ : ∃ wa, wa = ((w.alloc (.cells a.cells.toArray 42)).alloc (.cells b.cells.toArray 42)).alloc (.cells n.cells.toArray 42) := ⟨_, rfl⟩
 have GA : Hid (Grow w wa) := by subst hwa; exact (((Grow.refl w).al _).al _).al _
 have O1 := Lh fun W (hg : Grow w W) (R : Ending -> World -> Prop) hR => order_q a n k k S T W (ha.gr hg) (hn.gr hg) hk hk (R := R) hR
 have O2 := Lh fun W (hg : Grow w W) (R : Ending -> World -> Prop) hR => order_q n b k k T S W (hn.gr hg) (hb.gr hg) hk hk (R := R) hR
 have O3 := Lh fun W (hg : Grow w W) (R : Ending -> World -> Prop) hR => order_q b n k k S T W (hb.gr hg) (hn.gr hg) hk hk (R := R) hR
 have O4 := Lh fun W (hg : Grow w W) (R : Ending -> World -> Prop) hR => order_q n a k k T S W (hn.gr hg) (ha.gr hg) hk hk (R := R) hR
 clear ha hb hn hk; have EV : Hid (withinQ a.q b.q n.q = ((decide (cmpR a.q n.q <= 0) && decide (cmpR n.q b.q <= 0)) || (decide (cmpR b.q n.q <= 0) && decide (cmpR n.q a.q <= 0)))) := rfl; generalize cmpR a.q n.q = m1 at *; generalize cmpR n.q b.q = m2 at *; generalize cmpR b.q n.q = m3 at *; generalize cmpR n.q a.q = m4 at *
 obtain ⟨c1, h1⟩ : ∃ c, decide (m1 <= 0) = c := ⟨_, rfl⟩
 obtain ⟨c2, h2⟩ : ∃ c, decide (m2 <= 0) = c := ⟨_, rfl⟩
 obtain ⟨c3, h3⟩ : ∃ c, decide (m3 <= 0) = c := ⟨_, rfl⟩
 obtain ⟨c4, h4⟩ : ∃ c, decide (m4 <= 0) = c := ⟨_, rfl⟩
 rw [h1, h2, h3, h4] at EV
 have F1 : Hid (wa.heap[w.heap.size]? = some (.cells a.cells.toArray 42 (0, 0))) := by
  subst hwa; exact blk_al w _ _ (((Grow.refl _).al _).al _)
 have F2 : Hid (wa.heap[w.heap.size + 1]? = some (.cells b.cells.toArray 42 (0, 0))) := by
  subst hwa; have := blk_al (w.alloc (.cells a.cells.toArray 42)) b.cells.toArray 42 ((Grow.refl _).al (.cells n.cells.toArray 42))
  rwa [World.size_alloc] at this
 have F3 : Hid (wa.heap[w.heap.size + 1 + 1]? = some (.cells n.cells.toArray 42 (0, 0))) := by
  subst hwa; have := blk_al ((w.alloc (.cells a.cells.toArray 42)).alloc (.cells b.cells.toArray 42)) n.cells.toArray 42 (Grow.refl _)
  rwa [World.size_alloc, World.size_alloc] at this
 go_enter Tryz.func33, Tryz.ntmps33
 go_upto_region 1 with fail
 rw [<- hwa]; clear hwa; obtain ⟨x0, x1, x2, x3⟩ := RV.at_ F1.out; obtain ⟨y0, y1, y2, y3⟩ := RV.at_ F2.out; obtain ⟨z0, z1, z2, z3⟩ := RV.at_ F3.out; go_wp2_with fail
 go_at_call 13; refine O1.out _ GA.out _ ?_; intro w1 hg1; have GA := Lh (GA.out.tr hg1); have F1 := Lh (grow_blk hg1 F1.out); have F2 := Lh (grow_blk hg1 F2.out); have F3 := Lh (grow_blk hg1 F3.out); clear hg1 x0 x1 x2 x3 y0 y1 y2 y3 z0 z1 z2 z3
 cases c1 with
 | false =>
  obtain ⟨x0, x1, x2, x3⟩ := RV.at_ F1.out; obtain ⟨y0, y1, y2, y3⟩ := RV.at_ F2.out; obtain ⟨z0, z1, z2, z3⟩ := RV.at_ F3.out; go_wp2_with fail
  go_at_call 13; refine O3.out _ GA.out _ ?_; intro w1 hg1; have GA := Lh (GA.out.tr hg1); have F1 := Lh (grow_blk hg1 F1.out); have F2 := Lh (grow_blk hg1 F2.out); have F3 := Lh (grow_blk hg1 F3.out); clear hg1 x0 x1 x2 x3 y0 y1 y2 y3 z0 z1 z2 z3
  cases c3 with
  | false =>
   go_wp2; exact HR.out _ EV.out _ GA.out
  | true =>
   obtain ⟨x0, x1, x2, x3⟩ := RV.at_ F1.out; obtain ⟨y0, y1, y2, y3⟩ := RV.at_ F2.out; obtain ⟨z0, z1, z2, z3⟩ := RV.at_ F3.out; go_wp2_with fail
   go_at_call 13; refine O4.out _ GA.out _ ?_; intro w1 hg1; have GA := Lh (GA.out.tr hg1); have F1 := Lh (grow_blk hg1 F1.out); have F2 := Lh (grow_blk hg1 F2.out); have F3 := Lh (grow_blk hg1 F3.out); clear hg1 x0 x1 x2 x3 y0 y1 y2 y3 z0 z1 z2 z3; go_wp2; exact HR.out _ EV.out _ GA.out
 | true =>
  obtain ⟨x0, x1, x2, x3⟩ := RV.at_ F1.out; obtain ⟨y0, y1, y2, y3⟩ := RV.at_ F2.out; obtain ⟨z0, z1, z2, z3⟩ := RV.at_ F3.out; go_wp2_with fail
  go_at_call 13; refine O2.out _ GA.out _ ?_; intro w1 hg1; have GA := Lh (GA.out.tr hg1); have F1 := Lh (grow_blk hg1 F1.out); have F2 := Lh (grow_blk hg1 F2.out); have F3 := Lh (grow_blk hg1 F3.out); clear hg1 x0 x1 x2 x3 y0 y1 y2 y3 z0 z1 z2 z3
  cases c2 with
  | true =>
   go_wp2; exact HR.out _ EV.out _ GA.out
  | false =>
   obtain ⟨x0, x1, x2, x3⟩ := RV.at_ F1.out; obtain ⟨y0, y1, y2, y3⟩ := RV.at_ F2.out; obtain ⟨z0, z1, z2, z3⟩ := RV.at_ F3.out; go_wp2_with fail
   go_at_call 13; refine O3.out _ GA.out _ ?_; intro w1 hg1; have GA := Lh (GA.out.tr hg1); have F1 := Lh (grow_blk hg1 F1.out); have F2 := Lh (grow_blk hg1 F2.out); have F3 := Lh (grow_blk hg1 F3.out); clear hg1 x0 x1 x2 x3 y0 y1 y2 y3 z0 z1 z2 z3
   cases c3 with
   | false =>
    go_wp2; exact HR.out _ EV.out _ GA.out
   | true =>
    obtain ⟨x0, x1, x2, x3⟩ := RV.at_ F1.out; obtain ⟨y0, y1, y2, y3⟩ := RV.at_ F2.out; obtain ⟨z0, z1, z2, z3⟩ := RV.at_ F3.out; go_wp2_with fail
    go_at_call 13; refine O4.out _ GA.out _ ?_; intro w1 hg1; have GA := Lh (GA.out.tr hg1); have F1 := Lh (grow_blk hg1 F1.out); have F2 := Lh (grow_blk hg1 F2.out); have F3 := Lh (grow_blk hg1 F3.out); clear hg1 x0 x1 x2 x3 y0 y1 y2 y3 z0 z1 z2 z3; go_wp2; exact HR.out _ EV.out _ GA.out
end Go.Proofs.YteeeeddeacepmaaGreatDoor
