import Derived.Test.YteeeeddeacepmaaGreatDoorRW1
namespace Go.Proofs.YteeeeddeacepmaaGreatDoor
set_option maxRecDepth 100000
open Go.RowKit B
theorem cyc_snoc (F : PtQ -> PtQ -> Int) (l : List PtQ) (k : Nat) (hk : k < l.length) (hm : (k + 1) % l.length < l.length) : (cycTo (fun a b => [F a b]) l (k + 1)).sum = (cycTo (fun a b => [F a b]) l k).sum + F (l[k]) (l[(k + 1) % l.length]) := by
 rw [cycTo_succ _ _ _ hk hm, List.sum_append]; simp
theorem cyc_mono {F : PtQ -> PtQ -> Int} (hF : ∀ a b, 0 <= F a b) (l : List PtQ) (k : Nat) : ∀ j, k + j <= l.length -> (cycTo (fun a b => [F a b]) l k).sum <= (cycTo (fun a b => [F a b]) l (k + j)).sum
 | 0, _ => Int.le_refl _
 | j + 1, h => by
  have h1 := cyc_mono hF l k j (by omega); rw [<- Nat.add_assoc, cyc_snoc F l (k + j) (by omega) (Nat.mod_lt _ (by omega))]; have := hF (l[k + j]'(by omega)) (l[(k + j + 1) % l.length]'(Nat.mod_lt _ (by omega))); omega
theorem touch_at {p : PtQ} {l : List PtQ} {k : Nat} (hk : k < l.length) (hm : (k + 1) % l.length < l.length) (h0 : (cycTo (fun a b => [touchI p a b]) l k).sum = 0) (ht : touchQ (l[k]) (l[(k + 1) % l.length]) p = true) : windQ l p = (0, false) := by
 have h1 := cyc_mono (F := touchI p) (fun a b => by unfold touchI; split <;> decide) l (k + 1) (l.length - (k + 1)) (by omega); rw [show k + 1 + (l.length - (k + 1)) = l.length by omega, cyc_snoc _ _ _ hk hm, h0] at h1; unfold touchI at h1; rw [if_pos ht] at h1; unfold windQ; rw [if_neg]; unfold csum touchI; omega
theorem chi_one (p a b : PtQ) : -1 <= chiQ p a b /\ chiQ p a b <= 1 := by
 rw [chi_val]
 split
 ·decide
 ·split <;> decide
theorem chi_bound (p : PtQ) (l : List PtQ) : ∀ k, k <= l.length -> -(k : Int) <= (cycTo (fun a b => [chiQ p a b]) l k).sum /\ (cycTo (fun a b => [chiQ p a b]) l k).sum <= k
 | 0, _ => by simp [cycTo]
 | k + 1, h => by
  have h1 := chi_bound p l k (by omega); rw [cyc_snoc _ l k (by omega) (Nat.mod_lt _ (by omega))]; have := chi_one p (l[k]'(by omega)) (l[(k + 1) % l.length]'(Nat.mod_lt _ (by omega))); omega
set_option maxHeartbeats 16000000 in
theorem winding_any (l : List PV) (s : PV) (kk : Nat) (T U : Nat -> Prop) (v : Value) (S : Nat -> Prop) (w : World) (hb : Rd w S 8 v l.length (PVs l)) (hl : l.length <= 5000) (hv : ∀ p ∈ l, p.rd w T kk) (hs : s.rd w U kk) (hkk : kk <= 1500)
  {R : Ending -> World -> Prop}
  (hR : ∀ w', Grow w w' -> R (.returned (.tuple #[.int .i64 (windQ (l.map PV.q) s.q).1, .bool (windQ (l.map PV.q) s.q).2])) w') :
  Calls Tryz.prog 14 #[v, .agg s.cells.toArray] w R := by
 have HR1 : ∀ n b, windQ (l.map PV.q) s.q = (n, b) -> ∀ w', Grow w w' -> R (.returned (.tuple #[.int .i64 n, .bool b])) w' := fun n b e => by rw [e] at hR; exact hR
 have HR := Lh HR1; clear hR HR1; have hb := hb.lt (by decide); obtain ⟨_, A, cp, rfl, k1, k2, k3, k4⟩ := hb; unfold maxLen at k2; have HV := Lh hv; have HS := Lh hs; have HK := Lh hkk; clear hv hkk hs k3; have G0 : Hid (Grow w (w.alloc (.cells s.cells.toArray 44))) := (Grow.refl w).al _; have FS0 : Hid ((w.alloc (.cells s.cells.toArray 44)).heap[w.heap.size]? = some (.cells s.cells.toArray 44 (0, 0))) := blk_al w _ _ (Grow.refl _); have LN : Hid ((l.map PV.q).length = l.length) := List.length_map ..; go_enter Tryz.func14, Tryz.ntmps14
 go_upto_region 2 with fail
 generalize w.alloc (.cells s.cells.toArray 44) = w1 at *; go_wp2
 go_loopw [7, 6] (fun i nv wr => ∃ (k : Nat) (n : Int), k <= l.length /\ i = .int .i64 k /\ nv = .int .i64 n /\ Hid (n = (cycTo (fun a b => [chiQ s.q a b]) (l.map PV.q) k).sum /\ (cycTo (fun a b => [touchI s.q a b]) (l.map PV.q) k).sum = 0) /\ Hid (Grow w1 wr)) (fun i _ _ => l.length - (intOf i).toNat)
 case atStart => exact ⟨0, 0, Nat.zero_le _, rfl, rfl, ⟨rfl, rfl⟩, Grow.refl _⟩
 case round =>
  obtain ⟨k, n, hk, rfl, rfl, hct, hg⟩ := hrel
  by_cases hlt : k < l.length
  ·obtain ⟨bl, o, rfl, hS, hc⟩ := k4 (by omega)
   have hm : (k + 1) % l.length < l.length := Nat.mod_lt _ (by omega); have E0 := Lh fun W (h : Grow w W) => PV.mid h hS hc hlt
   have E1 := Lh fun W (h : Grow w W) => PV.mid h hS hc hm
   have NB : Hid (-(k : Int) <= n /\ n <= k) := by
    show _ /\ _; rw [hct.out.1]; exact chi_bound _ _ _ (by rw [LN.out]; exact hk)
   have hk' : k < (l.map PV.q).length := by rw [LN.out]; exact hlt
   have hm' : (k + 1) % (l.map PV.q).length < (l.map PV.q).length := by rw [LN.out]; exact hm
   have CS : Hid (touchQ (l[k]'hlt).q (l[(k + 1) % l.length]'hm).q s.q = false -> n + chiQ s.q (l[k]'hlt).q (l[(k + 1) % l.length]'hm).q = (cycTo (fun a b => [chiQ s.q a b]) (l.map PV.q) (k + 1)).sum /\ (cycTo (fun a b => [touchI s.q a b]) (l.map PV.q) (k + 1)).sum = 0) := by
    intro ht; have h1 := cyc_snoc (chiQ s.q) _ k hk' hm'; have h2 := cyc_snoc (touchI s.q) _ k hk' hm'; simp only [List.getElem_map, List.length_map] at h1 h2; rw [h1, h2, hct.out.1, hct.out.2]; refine ⟨rfl, ?_⟩; unfold touchI; rw [ht]; rfl
   have CT : Hid (touchQ (l[k]'hlt).q (l[(k + 1) % l.length]'hm).q s.q = true -> windQ (l.map PV.q) s.q = (0, false)) := fun ht => touch_at hk' hm' hct.out.2 (by simpa only [List.getElem_map, List.length_map] using ht)
   have RP := Lh (HV.out _ (List.getElem_mem hlt)); have RQ' := Lh (HV.out _ (List.getElem_mem hm)); have z4 : IntKind.i64.wrap ((k : Int) + 1) = (k : Int) + 1 := IntWalk.i64_in _ (by omega)
   have z5 : ((k : Int) + 1).tmod (l.length : Int) = (((k + 1) % l.length : Nat) : Int) := by
    rw [Int.tmod_eq_emod_of_nonneg (by omega)]; exact (Int.natCast_emod (k + 1) l.length).symm
   have z6 : ((k : Int) + 1) % (l.length : Int) = (((k + 1) % l.length : Nat) : Int) := (Int.natCast_emod (k + 1) l.length).symm; have z1 : ((l.length : Int) == 0) = false := by rw [beq_eq_false_iff_ne]; omega
   have z2 : ¬ (l.length : Int) = 0 := by omega
   have z3 : ¬ l = [] := by rintro rfl; simp at hlt
   have ZS := Lh (And.intro z4 (And.intro z5 (And.intro z6 (And.intro z1 (And.intro z2 (And.intro z3 hm)))))); clear z1 z2 z3 z4 z5 z6 k4 hc hk' hm'; generalize hmm : (k + 1) % l.length = m at *; generalize l[m] = q at *; generalize l[k] = p at *; have HLT := Lh hlt; clear hct hmm hm; have GR : Hid (Grow w wr) := G0.out.tr hg.out; have FS := Lh (grow_blk hg.out FS0.out); go_upto_region 5 with fail
   refine wp_region_freeS ⟨12, some 8, 44, zeroPV.cells.toArray⟩ ⟨13, some 9, 44, zeroPV.cells.toArray⟩ 15 [0, 1, 2, 3, 4, 5, 6, 7, 8, 9, 10, 11] [14] (by kernel_rfl) (by kernel_rfl) (by decide) ⟨_, rfl, rfl, rfl, fun a W K h => by go_simp; exact h⟩ ⟨_, rfl, rfl, rfl, fun a W K h => by go_simp; exact h⟩ (by intro c a d v w h; cases d <;> exact h) u8 u9 rfl rfl ?_; have GD : Hid (Grow wr wr.drew) := (Grow.refl _).dr; generalize wr.drew = wb at *
   iterate 12
    apply frs_take; exact rfl; (simp); (simp); (intro x1 x2; exact rfl)
    ·intro x1 x2 W' hW
     obtain ⟨y0, y1, y2, y3, y4, y5, y6, y7⟩ := E0.out W' (GR.out.tr (GD.out.tr hW)); obtain ⟨v0, v1, v2, v3, v4, v5, v6, v7⟩ := E1.out W' (GR.out.tr (GD.out.tr hW)); obtain ⟨q1, q2, q3, q4, q5, q6, q7⟩ := ZS.out; clear hW; simp only [FA.put2, Act.put, sA, sZ, sS]
     go_simp
     with_reducible rfl
    simp only [Act.put, sA, sZ, sS]
   refine frs_nil ?_; intro b1 b2 V hV hJ hne hc1 hc2; have FP : Hid (V.heap[b1]? = some (.cells zeroPV.cells.toArray 44 (0, 0))) := hc1.2; have FQ : Hid (V.heap[b2]? = some (.cells zeroPV.cells.toArray 44 (0, 0))) := hc2.2
   have NE : Hid (b1 ≠ b2 /\ b2 ≠ b1) := ⟨hne, fun e => hne e.symm⟩
   have L1 : wb.heap.size <= b1 := hc1.1; have L2 : wb.heap.size <= b2 := hc2.1; have G1 : Grow wb (V.setRow b1 p.cells.toArray) := Grow.row hV L1 _; have G2 : Grow wb ((V.setRow b1 p.cells.toArray).setRow b2 q.cells.toArray) := G1.row L2 _; have H2 : (V.setRow b1 p.cells.toArray).heap[b2]? = some (.cells zeroPV.cells.toArray 44 (0, 0)) := (setRow_other _ _ _ _ NE.out.2).trans FQ.out; refine ⟨Grow wb, fun _ h => h, hV, ?_⟩; clear hV hne hc1 hc2 hJ; unfold ptrTo FA.put2; simp only [Act.put, sA, sZ, sS, List.drop_succ_cons, List.drop_zero]
   apply lext_turn; exact rfl; exact rfl; exact rfl; intro K hK; refine wp_store_row 44 _ _ rfl b1 p.cells.toArray rfl rfl 44 _ FP.out (by kernel_rfl) rfl (PV.one _) ?_; refine hK.out _ _ G1 ?_; clear hK; simp only [Act.put]; refine lext_nil ?_; go_upto_region 6 with (refine wpList_store_row rfl 44 _ _ rfl b2 q.cells.toArray rfl rfl 44 _ H2 (by kernel_rfl) rfl (PV.one _) ?_)
   have FQn := Lh (setRow_heap _ b2 _ q.cells.toArray _ _ H2); have FP := Lh ((setRow_other _ b2 b1 q.cells.toArray NE.out.1).trans (setRow_heap _ b1 _ p.cells.toArray _ _ FP.out)); have FQ := Lh FQn.out; have FS := Lh (grow_blk (GD.out.tr G2) FS.out); have GR := Lh (GR.out.tr (GD.out.tr G2)); have hg := Lh (hg.out.tr (GD.out.tr G2)); clear FQn H2 G1 G2 L1 L2 GD E0 E1; generalize (V.setRow b1 p.cells.toArray).setRow b2 q.cells.toArray = w5 at *
   have TQ : Hid (touchQ p.q q.q s.q = ((sideIQ p.q q.q s.q == 0) && withinQ p.x.q q.x.q s.x.q && withinQ p.y.q q.y.q s.y.q)) := rfl; have CQ : Hid (chiQ s.q p.q q.q = (if (decide (cmpR p.y.q s.y.q <= 0) && !decide (cmpR q.y.q s.y.q <= 0) && decide (0 < sideIQ p.q q.q s.q)) = true then 1 else 0) + (if (!decide (cmpR p.y.q s.y.q <= 0) && decide (cmpR q.y.q s.y.q <= 0) && decide (sideIQ p.q q.q s.q < 0)) = true then -1 else 0)) := rfl
   go_wp2_with (first | (refine wpList_load_row rfl 44 _ rfl b1 rfl 44 _ _ _ FP.out Tryz.underlying44 rfl (by kernel_rfl) ?_) | (refine wpList_load_row rfl 44 _ rfl b2 rfl 44 _ _ _ FQ.out Tryz.underlying44 rfl (by kernel_rfl) ?_) | (refine wpList_load_row rfl 44 _ rfl w.heap.size rfl 44 _ _ _ FS.out Tryz.underlying44 rfl (by kernel_rfl) ?_))
   go_at_call 32; refine side_any p q s kk T U w5 (RP.out.gr GR.out) (RQ'.out.gr GR.out) (HS.out.gr GR.out) HK.out ?_; intro w6 hg6; have FP := Lh (grow_blk hg6 FP.out); have FQ := Lh (grow_blk hg6 FQ.out); have FS := Lh (grow_blk hg6 FS.out); have GR := Lh (GR.out.tr hg6); have hg := Lh (hg.out.tr hg6); clear hg6; generalize sideIQ p.q q.q s.q = si at *
   obtain ⟨c0, h0⟩ : ∃ c, (si == 0) = c := ⟨_, rfl⟩
   obtain ⟨cp', hp'⟩ : ∃ c, decide (0 < si) = c := ⟨_, rfl⟩
   obtain ⟨cn', hn'⟩ : ∃ c, decide (si < 0) = c := ⟨_, rfl⟩
   rw [h0] at TQ; rw [hp', hn'] at CQ
   obtain ⟨cx, hx⟩ : ∃ c, withinQ p.x.q q.x.q s.x.q = c := ⟨_, rfl⟩
   obtain ⟨cy, hy⟩ : ∃ c, withinQ p.y.q q.y.q s.y.q = c := ⟨_, rfl⟩
   rw [hx, hy] at TQ; have HX := Lh hx; have HY := Lh hy; have WX := Lh fun W (h : Grow w W) (R : Ending -> World -> Prop) hR => within_any p.x q.x s.x kk T U W (RP.out.1.gr h) (RQ'.out.1.gr h) (HS.out.1.gr h) (by have := HK.out; omega) (R := R) hR
   have WY := Lh fun W (h : Grow w W) (R : Ending -> World -> Prop) hR => within_any p.y q.y s.y kk T U W (RP.out.2.gr h) (RQ'.out.2.gr h) (HS.out.2.gr h) (by have := HK.out; omega) (R := R) hR
   have OP := Lh fun W (h : Grow w W) (R : Ending -> World -> Prop) hR => order_q p.y s.y kk kk T U W (RP.out.2.gr h) (HS.out.2.gr h) (by have := HK.out; omega) (by have := HK.out; omega) (R := R) hR
   have OQ := Lh fun W (h : Grow w W) (R : Ending -> World -> Prop) hR => order_q q.y s.y kk kk T U W (RQ'.out.2.gr h) (HS.out.2.gr h) (by have := HK.out; omega) (by have := HK.out; omega) (R := R) hR
   rw [hx] at WX; rw [hy] at WY; clear hx hy HX HY RP RQ'; generalize cmpR p.y.q s.y.q = m1 at *; generalize cmpR q.y.q s.y.q = m2 at *
   obtain ⟨d1, hd1⟩ : ∃ c, decide (m1 <= 0) = c := ⟨_, rfl⟩
   obtain ⟨d2, hd2⟩ : ∃ c, decide (m2 <= 0) = c := ⟨_, rfl⟩
   rw [hd1, hd2] at CQ; generalize touchQ p.q q.q s.q = tq at *; generalize chiQ s.q p.q q.q = ch at *
   cases c0 with
   | false =>
    have TQ : Hid (tq = false) := TQ.out; go_wp2_with fail
    have CS := Lh (CS.out TQ.out); clear TQ CT; go_upto_region 9 with fail
    have GN : Hid (Grow w6 (w6).drew) := (Grow.refl _).dr; have FP := Lh (grow_blk GN.out FP.out); have FQ := Lh (grow_blk GN.out FQ.out); have FS := Lh (grow_blk GN.out FS.out); have GR := Lh (GR.out.tr GN.out); have hg := Lh (hg.out.tr GN.out); clear GN; refine wp_region_lexT (Grow (w6).drew) ((Grow.refl _)) 13 [0, 1, 2, 3, 6, 7, 8, 9, 4, 5, 10, 11, 12] (by kernel_rfl) (by kernel_rfl) (by intro c a d v w h; cases d <;> exact h) ?_; generalize (w6).drew = w8 at *
    iterate 8 (apply lext_take; exact rfl; exact rfl; (intro W hW; obtain ⟨-, -, -, -, z4, z5, z6, z7⟩ := PV.at_ (grow_blk hW FP.out); obtain ⟨-, -, -, -, y4, y5, y6, y7⟩ := PV.at_ (grow_blk hW FQ.out); obtain ⟨-, -, -, -, v4, v5, v6, v7⟩ := PV.at_ (grow_blk hW FS.out); (try clear hW); go_simp; with_reducible rfl); try simp only [Act.put, sA, sZ, sS])
    apply lext_turn; exact rfl; exact rfl; exact rfl; intro K hK; go_simp; go_at_call 13; refine OP.out _ GR.out _ ?_; intro w9 hg9; have G9 := Lh hg9; refine hK.out _ _ hg9 ?_; clear hK hg9
    try simp only [Act.put, sA, sZ, sS]
    iterate 1 (apply lext_take; exact rfl; exact rfl; (intro W hW; (try clear hW); go_simp; with_reducible rfl); try simp only [Act.put, sA, sZ, sS])
    apply lext_turn; exact rfl; exact rfl; exact rfl; intro K hK; go_simp; go_at_call 13; refine OQ.out _ (GR.out.tr G9.out) _ ?_; intro w10 hg10; have G10 := Lh (G9.out.tr hg10); refine hK.out _ _ G10.out ?_; clear hK hg10
    try simp only [Act.put, sA, sZ, sS]
    iterate 2 (apply lext_take; exact rfl; exact rfl; (intro W hW; (try clear hW); go_simp; with_reducible rfl); try simp only [Act.put, sA, sZ, sS])
    refine lext_nil ?_; simp only [List.drop_succ_cons, List.drop_zero]; have hg := Lh (hg.out.tr G10.out); clear G9 G10 FP FQ FS GR OP OQ; have NB' := NB.out; have HL' := HLT.out
    cases d1 with
    | false =>
     cases d2 with
     | false =>
      have CE : Hid (n = (cycTo (fun a b => [chiQ s.q a b]) (l.map PV.q) (k + 1)).sum /\ (cycTo (fun a b => [touchI s.q a b]) (l.map PV.q) (k + 1)).sum = 0) := by
       show _ /\ _; rw [<- CS.out.1, CS.out.2, CQ.out]; exact ⟨by simp <;> omega, rfl⟩
      clear CS CQ; go_wp2; go_roundw
      case rel => exact ⟨k + 1, n, by omega, by go_num, by go_num, CE.out, hg.out⟩
      case measure => simp [intOf]; omega
     | true =>
      cases cn' with
      | false =>
       have CE : Hid (n = (cycTo (fun a b => [chiQ s.q a b]) (l.map PV.q) (k + 1)).sum /\ (cycTo (fun a b => [touchI s.q a b]) (l.map PV.q) (k + 1)).sum = 0) := by
        show _ /\ _; rw [<- CS.out.1, CS.out.2, CQ.out]; exact ⟨by simp <;> omega, rfl⟩
       clear CS CQ; go_wp2; go_roundw
       case rel => exact ⟨k + 1, n, by omega, by go_num, by go_num, CE.out, hg.out⟩
       case measure => simp [intOf]; omega
      | true =>
       have CE : Hid (n - 1 = (cycTo (fun a b => [chiQ s.q a b]) (l.map PV.q) (k + 1)).sum /\ (cycTo (fun a b => [touchI s.q a b]) (l.map PV.q) (k + 1)).sum = 0) := by
        show _ /\ _; rw [<- CS.out.1, CS.out.2, CQ.out]; exact ⟨by simp <;> omega, rfl⟩
       clear CS CQ; go_wp2; go_roundw
       case rel => exact ⟨k + 1, n - 1, by omega, by go_num, by go_num, CE.out, hg.out⟩
       case measure => simp [intOf]; omega
    | true =>
     cases d2 with
     | true =>
      have CE : Hid (n = (cycTo (fun a b => [chiQ s.q a b]) (l.map PV.q) (k + 1)).sum /\ (cycTo (fun a b => [touchI s.q a b]) (l.map PV.q) (k + 1)).sum = 0) := by
       show _ /\ _; rw [<- CS.out.1, CS.out.2, CQ.out]; exact ⟨by simp <;> omega, rfl⟩
      clear CS CQ; go_wp2; go_roundw
      case rel => exact ⟨k + 1, n, by omega, by go_num, by go_num, CE.out, hg.out⟩
      case measure => simp [intOf]; omega
     | false =>
      cases cp' with
      | false =>
       have CE : Hid (n = (cycTo (fun a b => [chiQ s.q a b]) (l.map PV.q) (k + 1)).sum /\ (cycTo (fun a b => [touchI s.q a b]) (l.map PV.q) (k + 1)).sum = 0) := by
        show _ /\ _; rw [<- CS.out.1, CS.out.2, CQ.out]; exact ⟨by simp <;> omega, rfl⟩
       clear CS CQ; go_wp2; go_roundw
       case rel => exact ⟨k + 1, n, by omega, by go_num, by go_num, CE.out, hg.out⟩
       case measure => simp [intOf]; omega
      | true =>
       have CE : Hid (n + 1 = (cycTo (fun a b => [chiQ s.q a b]) (l.map PV.q) (k + 1)).sum /\ (cycTo (fun a b => [touchI s.q a b]) (l.map PV.q) (k + 1)).sum = 0) := by
        show _ /\ _; rw [<- CS.out.1, CS.out.2, CQ.out]; exact ⟨by simp <;> omega, rfl⟩
       clear CS CQ; go_wp2; go_roundw
       case rel => exact ⟨k + 1, n + 1, by omega, by go_num, by go_num, CE.out, hg.out⟩
       case measure => simp [intOf]; omega
   | true =>
    obtain ⟨z0, z1, z2, z3, z4, z5, z6, z7⟩ := PV.at_ FP.out; obtain ⟨y0, y1, y2, y3, y4, y5, y6, y7⟩ := PV.at_ FQ.out; obtain ⟨v0, v1, v2, v3, v4, v5, v6, v7⟩ := PV.at_ FS.out; go_wp2_with fail
    go_at_call 33; refine WX.out _ GR.out _ ?_; intro w7 hg7; have FP := Lh (grow_blk hg7 FP.out); have FQ := Lh (grow_blk hg7 FQ.out); have FS := Lh (grow_blk hg7 FS.out); have GR := Lh (GR.out.tr hg7); have hg := Lh (hg.out.tr hg7); clear hg7 z0 z1 z2 z3 z4 z5 z6 z7 y0 y1 y2 y3 y4 y5 y6 y7 v0 v1 v2 v3 v4 v5 v6 v7 WX
    cases cx with
    | false =>
     have TQ : Hid (tq = false) := TQ.out; go_wp2_with fail
     have CS := Lh (CS.out TQ.out); clear TQ CT; go_upto_region 9 with fail
     have GN : Hid (Grow w7 (w7).drew) := (Grow.refl _).dr; have FP := Lh (grow_blk GN.out FP.out); have FQ := Lh (grow_blk GN.out FQ.out); have FS := Lh (grow_blk GN.out FS.out); have GR := Lh (GR.out.tr GN.out); have hg := Lh (hg.out.tr GN.out); clear GN; refine wp_region_lexT (Grow (w7).drew) ((Grow.refl _)) 13 [0, 1, 2, 3, 6, 7, 8, 9, 4, 5, 10, 11, 12] (by kernel_rfl) (by kernel_rfl) (by intro c a d v w h; cases d <;> exact h) ?_; generalize (w7).drew = w8 at *
     iterate 8 (apply lext_take; exact rfl; exact rfl; (intro W hW; obtain ⟨-, -, -, -, z4, z5, z6, z7⟩ := PV.at_ (grow_blk hW FP.out); obtain ⟨-, -, -, -, y4, y5, y6, y7⟩ := PV.at_ (grow_blk hW FQ.out); obtain ⟨-, -, -, -, v4, v5, v6, v7⟩ := PV.at_ (grow_blk hW FS.out); (try clear hW); go_simp; with_reducible rfl); try simp only [Act.put, sA, sZ, sS])
     apply lext_turn; exact rfl; exact rfl; exact rfl; intro K hK; go_simp; go_at_call 13; refine OP.out _ GR.out _ ?_; intro w9 hg9; have G9 := Lh hg9; refine hK.out _ _ hg9 ?_; clear hK hg9
     try simp only [Act.put, sA, sZ, sS]
     iterate 1 (apply lext_take; exact rfl; exact rfl; (intro W hW; (try clear hW); go_simp; with_reducible rfl); try simp only [Act.put, sA, sZ, sS])
     apply lext_turn; exact rfl; exact rfl; exact rfl; intro K hK; go_simp; go_at_call 13; refine OQ.out _ (GR.out.tr G9.out) _ ?_; intro w10 hg10; have G10 := Lh (G9.out.tr hg10); refine hK.out _ _ G10.out ?_; clear hK hg10
     try simp only [Act.put, sA, sZ, sS]
     iterate 2 (apply lext_take; exact rfl; exact rfl; (intro W hW; (try clear hW); go_simp; with_reducible rfl); try simp only [Act.put, sA, sZ, sS])
     refine lext_nil ?_; simp only [List.drop_succ_cons, List.drop_zero]; have hg := Lh (hg.out.tr G10.out); clear G9 G10 FP FQ FS GR OP OQ; have NB' := NB.out; have HL' := HLT.out
     cases d1 with
     | false =>
      cases d2 with
      | false =>
       have CE : Hid (n = (cycTo (fun a b => [chiQ s.q a b]) (l.map PV.q) (k + 1)).sum /\ (cycTo (fun a b => [touchI s.q a b]) (l.map PV.q) (k + 1)).sum = 0) := by
        show _ /\ _; rw [<- CS.out.1, CS.out.2, CQ.out]; exact ⟨by simp <;> omega, rfl⟩
       clear CS CQ; go_wp2; go_roundw
       case rel => exact ⟨k + 1, n, by omega, by go_num, by go_num, CE.out, hg.out⟩
       case measure => simp [intOf]; omega
      | true =>
       cases cn' with
       | false =>
        have CE : Hid (n = (cycTo (fun a b => [chiQ s.q a b]) (l.map PV.q) (k + 1)).sum /\ (cycTo (fun a b => [touchI s.q a b]) (l.map PV.q) (k + 1)).sum = 0) := by
         show _ /\ _; rw [<- CS.out.1, CS.out.2, CQ.out]; exact ⟨by simp <;> omega, rfl⟩
        clear CS CQ; go_wp2; go_roundw
        case rel => exact ⟨k + 1, n, by omega, by go_num, by go_num, CE.out, hg.out⟩
        case measure => simp [intOf]; omega
       | true =>
        have CE : Hid (n - 1 = (cycTo (fun a b => [chiQ s.q a b]) (l.map PV.q) (k + 1)).sum /\ (cycTo (fun a b => [touchI s.q a b]) (l.map PV.q) (k + 1)).sum = 0) := by
         show _ /\ _; rw [<- CS.out.1, CS.out.2, CQ.out]; exact ⟨by simp <;> omega, rfl⟩
        clear CS CQ; go_wp2; go_roundw
        case rel => exact ⟨k + 1, n - 1, by omega, by go_num, by go_num, CE.out, hg.out⟩
        case measure => simp [intOf]; omega
     | true =>
      cases d2 with
      | true =>
       have CE : Hid (n = (cycTo (fun a b => [chiQ s.q a b]) (l.map PV.q) (k + 1)).sum /\ (cycTo (fun a b => [touchI s.q a b]) (l.map PV.q) (k + 1)).sum = 0) := by
        show _ /\ _; rw [<- CS.out.1, CS.out.2, CQ.out]; exact ⟨by simp <;> omega, rfl⟩
       clear CS CQ; go_wp2; go_roundw
       case rel => exact ⟨k + 1, n, by omega, by go_num, by go_num, CE.out, hg.out⟩
       case measure => simp [intOf]; omega
      | false =>
       cases cp' with
       | false =>
        have CE : Hid (n = (cycTo (fun a b => [chiQ s.q a b]) (l.map PV.q) (k + 1)).sum /\ (cycTo (fun a b => [touchI s.q a b]) (l.map PV.q) (k + 1)).sum = 0) := by
         show _ /\ _; rw [<- CS.out.1, CS.out.2, CQ.out]; exact ⟨by simp <;> omega, rfl⟩
        clear CS CQ; go_wp2; go_roundw
        case rel => exact ⟨k + 1, n, by omega, by go_num, by go_num, CE.out, hg.out⟩
        case measure => simp [intOf]; omega
       | true =>
        have CE : Hid (n + 1 = (cycTo (fun a b => [chiQ s.q a b]) (l.map PV.q) (k + 1)).sum /\ (cycTo (fun a b => [touchI s.q a b]) (l.map PV.q) (k + 1)).sum = 0) := by
         show _ /\ _; rw [<- CS.out.1, CS.out.2, CQ.out]; exact ⟨by simp <;> omega, rfl⟩
        clear CS CQ; go_wp2; go_roundw
        case rel => exact ⟨k + 1, n + 1, by omega, by go_num, by go_num, CE.out, hg.out⟩
        case measure => simp [intOf]; omega
    | true =>
     obtain ⟨z0, z1, z2, z3, z4, z5, z6, z7⟩ := PV.at_ FP.out; obtain ⟨y0, y1, y2, y3, y4, y5, y6, y7⟩ := PV.at_ FQ.out; obtain ⟨v0, v1, v2, v3, v4, v5, v6, v7⟩ := PV.at_ FS.out; go_wp2_with fail
     go_at_call 33; refine WY.out _ GR.out _ ?_; intro w8' hg8; have FP := Lh (grow_blk hg8 FP.out); have FQ := Lh (grow_blk hg8 FQ.out); have FS := Lh (grow_blk hg8 FS.out); have GR := Lh (GR.out.tr hg8); have hg := Lh (hg.out.tr hg8); clear hg8 z0 z1 z2 z3 z4 z5 z6 z7 y0 y1 y2 y3 y4 y5 y6 y7 v0 v1 v2 v3 v4 v5 v6 v7 WY
     cases cy with
     | false =>
      have TQ : Hid (tq = false) := TQ.out; go_wp2_with fail
      have CS := Lh (CS.out TQ.out); clear TQ CT; go_upto_region 9 with fail
      have GN : Hid (Grow w8' (w8').drew) := (Grow.refl _).dr; have FP := Lh (grow_blk GN.out FP.out); have FQ := Lh (grow_blk GN.out FQ.out); have FS := Lh (grow_blk GN.out FS.out); have GR := Lh (GR.out.tr GN.out); have hg := Lh (hg.out.tr GN.out); clear GN; refine wp_region_lexT (Grow (w8').drew) ((Grow.refl _)) 13 [0, 1, 2, 3, 6, 7, 8, 9, 4, 5, 10, 11, 12] (by kernel_rfl) (by kernel_rfl) (by intro c a d v w h; cases d <;> exact h) ?_; generalize (w8').drew = w8 at *
      iterate 8 (apply lext_take; exact rfl; exact rfl; (intro W hW; obtain ⟨-, -, -, -, z4, z5, z6, z7⟩ := PV.at_ (grow_blk hW FP.out); obtain ⟨-, -, -, -, y4, y5, y6, y7⟩ := PV.at_ (grow_blk hW FQ.out); obtain ⟨-, -, -, -, v4, v5, v6, v7⟩ := PV.at_ (grow_blk hW FS.out); (try clear hW); go_simp; with_reducible rfl); try simp only [Act.put, sA, sZ, sS])
      apply lext_turn; exact rfl; exact rfl; exact rfl; intro K hK; go_simp; go_at_call 13; refine OP.out _ GR.out _ ?_; intro w9 hg9; have G9 := Lh hg9; refine hK.out _ _ hg9 ?_; clear hK hg9
      try simp only [Act.put, sA, sZ, sS]
      iterate 1 (apply lext_take; exact rfl; exact rfl; (intro W hW; (try clear hW); go_simp; with_reducible rfl); try simp only [Act.put, sA, sZ, sS])
      apply lext_turn; exact rfl; exact rfl; exact rfl; intro K hK; go_simp; go_at_call 13; refine OQ.out _ (GR.out.tr G9.out) _ ?_; intro w10 hg10; have G10 := Lh (G9.out.tr hg10); refine hK.out _ _ G10.out ?_; clear hK hg10
      try simp only [Act.put, sA, sZ, sS]
      iterate 2 (apply lext_take; exact rfl; exact rfl; (intro W hW; (try clear hW); go_simp; with_reducible rfl); try simp only [Act.put, sA, sZ, sS])
      refine lext_nil ?_; simp only [List.drop_succ_cons, List.drop_zero]; have hg := Lh (hg.out.tr G10.out); clear G9 G10 FP FQ FS GR OP OQ; have NB' := NB.out; have HL' := HLT.out
      cases d1 with
      | false =>
       cases d2 with
       | false =>
        have CE : Hid (n = (cycTo (fun a b => [chiQ s.q a b]) (l.map PV.q) (k + 1)).sum /\ (cycTo (fun a b => [touchI s.q a b]) (l.map PV.q) (k + 1)).sum = 0) := by
         show _ /\ _; rw [<- CS.out.1, CS.out.2, CQ.out]; exact ⟨by simp <;> omega, rfl⟩
        clear CS CQ; go_wp2; go_roundw
        case rel => exact ⟨k + 1, n, by omega, by go_num, by go_num, CE.out, hg.out⟩
        case measure => simp [intOf]; omega
       | true =>
        cases cn' with
        | false =>
         have CE : Hid (n = (cycTo (fun a b => [chiQ s.q a b]) (l.map PV.q) (k + 1)).sum /\ (cycTo (fun a b => [touchI s.q a b]) (l.map PV.q) (k + 1)).sum = 0) := by
          show _ /\ _; rw [<- CS.out.1, CS.out.2, CQ.out]; exact ⟨by simp <;> omega, rfl⟩
         clear CS CQ; go_wp2; go_roundw
         case rel => exact ⟨k + 1, n, by omega, by go_num, by go_num, CE.out, hg.out⟩
         case measure => simp [intOf]; omega
        | true =>
         have CE : Hid (n - 1 = (cycTo (fun a b => [chiQ s.q a b]) (l.map PV.q) (k + 1)).sum /\ (cycTo (fun a b => [touchI s.q a b]) (l.map PV.q) (k + 1)).sum = 0) := by
          show _ /\ _; rw [<- CS.out.1, CS.out.2, CQ.out]; exact ⟨by simp <;> omega, rfl⟩
         clear CS CQ; go_wp2; go_roundw
         case rel => exact ⟨k + 1, n - 1, by omega, by go_num, by go_num, CE.out, hg.out⟩
         case measure => simp [intOf]; omega
      | true =>
       cases d2 with
       | true =>
        have CE : Hid (n = (cycTo (fun a b => [chiQ s.q a b]) (l.map PV.q) (k + 1)).sum /\ (cycTo (fun a b => [touchI s.q a b]) (l.map PV.q) (k + 1)).sum = 0) := by
         show _ /\ _; rw [<- CS.out.1, CS.out.2, CQ.out]; exact ⟨by simp <;> omega, rfl⟩
        clear CS CQ; go_wp2; go_roundw
        case rel => exact ⟨k + 1, n, by omega, by go_num, by go_num, CE.out, hg.out⟩
        case measure => simp [intOf]; omega
       | false =>
        cases cp' with
        | false =>
         have CE : Hid (n = (cycTo (fun a b => [chiQ s.q a b]) (l.map PV.q) (k + 1)).sum /\ (cycTo (fun a b => [touchI s.q a b]) (l.map PV.q) (k + 1)).sum = 0) := by
          show _ /\ _; rw [<- CS.out.1, CS.out.2, CQ.out]; exact ⟨by simp <;> omega, rfl⟩
         clear CS CQ; go_wp2; go_roundw
         case rel => exact ⟨k + 1, n, by omega, by go_num, by go_num, CE.out, hg.out⟩
         case measure => simp [intOf]; omega
        | true =>
         have CE : Hid (n + 1 = (cycTo (fun a b => [chiQ s.q a b]) (l.map PV.q) (k + 1)).sum /\ (cycTo (fun a b => [touchI s.q a b]) (l.map PV.q) (k + 1)).sum = 0) := by
          show _ /\ _; rw [<- CS.out.1, CS.out.2, CQ.out]; exact ⟨by simp <;> omega, rfl⟩
         clear CS CQ; go_wp2; go_roundw
         case rel => exact ⟨k + 1, n + 1, by omega, by go_num, by go_num, CE.out, hg.out⟩
         case measure => simp [intOf]; omega
     | true =>
      have TQ : Hid (tq = true) := TQ.out; go_wp2; exact HR.out _ _ (CT.out TQ.out) _ GR.out
  ·obtain rfl : k = l.length := by omega
   have EV : Hid (windQ (l.map PV.q) s.q = (n, true)) := by
    show _ = _; obtain ⟨h1, h2⟩ := hct.out; unfold windQ csum; rw [LN.out, h2, if_pos rfl, <- h1]
   have GF := Lh (G0.out.tr hg.out); clear hct; go_wp2; exact HR.out _ _ EV.out _ GF.out
end Go.Proofs.YteeeeddeacepmaaGreatDoor
