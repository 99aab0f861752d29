import Derived.Test.YtfdjdfobhkmlpaaGreatRfD
import Derived.Test.YtfdjdfobhkmlpaaGreatRfE
import Derived.Test.YtfdjdfobhkmlpaaGreatOvV
namespace Go.Proofs.YtfdjdfobhkmlpaaGreat
set_option maxRecDepth 100000
open Go.RowKit B
theorem rd_nilF (w : World) (S : Nat -> Prop) (size : Nat) : Rd w S size (.slice none 0 0) 0 [] := ⟨by simp, none, 0, rfl, Nat.le_refl _, by unfold maxLen; omega, fun _ => rfl, fun h => absurd h (by omega)⟩
set_option maxHeartbeats 16000000 in
theorem overFeatures_walk (f : Ft) (z : Zm) (e : Int) (A : List PRow) (B : List Atr) (S S' Sa : Nat -> Prop) (w : World) (hp : Rd w S 1 f.pv A.length (A.map PRow.v)) (hA : ∀ r ∈ A, r.rd w S') (hBig : ∀ r ∈ A, r.l.length <= 140737488355328) (ha : Rd w Sa 4 f.av B.length (Atrs B)) (hn : B.length * 48 <= 140737488355328)
  {R : Ending -> World -> Prop} (hR : ∀ w', Grow w w' -> R (.returned (.bool true)) w') :
  Calls Tryz.prog 3 #[.agg f.cells.toArray, .agg z.cells.toArray, .int .i64 e] w R := by
 have HR := Lh hR; clear hR; have hp := hp.lt (by decide); have ha := ha.lt (by decide); have HP := Lh hp; have HA := Lh hA; have HBG := Lh hBig; have HAT := Lh ha; have HN := Lh hn; obtain ⟨_, aA, ac, hav, -, -, -, -⟩ := ha; clear hA hn hBig; obtain ⟨h, id, ty, pv, av⟩ := f; dsimp only at *; subst hav; obtain ⟨_, pA, pc, rfl, p1, p2, p3, p4⟩ := hp; unfold maxLen at p2; clear p4 p3
 have MU := Lh fun W (hg : Grow w W) (R : Ending -> World -> Prop) hR => much28_any _ A _ _ W (HP.out.gr (by decide) hg) (fun r hr => (HA.out r hr).gr2 (by decide) hg) HBG.out (R := R) hR
 have FC := Lh fun W (hg : Grow w W) hl (R : Ending -> World -> Prop) hb ho => feature_any (⟨h, id, ty, .slice pA A.length pc, .slice aA B.length ac⟩ : Ft) z e A B.length (Atrs B) _ _ _ W (HP.out.gr (by decide) hg) (fun r hr => (HA.out r hr).gr2 (by decide) hg) (HAT.out.gr2 (by decide) hg) Atrs_one HN.out hl (R := R) hb ho
 have RC := Lh fun W (hg : Grow w W) hl (R : Ending -> World -> Prop) hb ho => rfeature_any (⟨h, id, ty, .slice pA A.length pc, .slice aA B.length ac⟩ : Ft) z e A B.length (Atrs B) _ _ _ W (HP.out.gr (by decide) hg) (fun r hr => (HA.out r hr).gr2 (by decide) hg) (HAT.out.gr2 (by decide) hg) Atrs_one HN.out hl (R := R) hb ho
 have OR := Lh fun W (R : Ending -> World -> Prop) hR => oright_any z e W (R := R) hR
 have RR := Lh fun W (R : Ending -> World -> Prop) hR => rright28_any z e W (R := R) hR
 dsimp only at FC RC
 obtain ⟨n, hnB⟩ : ∃ n, n = B.length := ⟨_, rfl⟩
 rw [<- hnB] at FC RC HAT ⊢; have HNB := Lh hnB; clear hnB
 obtain ⟨wa, hwa⟩ : ∃ wa, wa = (w.alloc (.cells (⟨h, id, ty, .slice pA A.length pc, .slice aA n ac⟩ : Ft).cells.toArray 26)).alloc (.cells z.cells.toArray 28) := ⟨_, rfl⟩
 have GA : Hid (Grow w wa) := by subst hwa; exact ((Grow.refl _).al _).al _
 have BF : Hid (wa.heap[w.heap.size]? = some (.cells (⟨h, id, ty, .slice pA A.length pc, .slice aA n ac⟩ : Ft).cells.toArray 26 (0, 0))) := by
  rw [hwa]; exact grow_blk ((Grow.refl _).al _) (heap_alloc_new w _)
 have BZ : Hid (wa.heap[w.heap.size + 1]? = some (.cells z.cells.toArray 28 (0, 0))) := by
  have := heap_alloc_new (w.alloc (.cells (⟨h, id, ty, .slice pA A.length pc, .slice aA n ac⟩ : Ft).cells.toArray 26)) (.cells z.cells.toArray 28); rw [World.size_alloc] at this; rw [hwa]; exact this
 go_enter Tryz.func3, Tryz.ntmps3
 go_upto_region 1 with fail
 rw [<- hwa]; clear hwa; have f3 := cell_of_row _ w.heap.size 3 _ _ (0, 0) BF.out; have f4 := cell_of_row _ w.heap.size 4 _ _ (0, 0) BF.out; unfold Ft.cells at f3 f4; simp only [List.getElem?_toArray, List.getElem?_cons_zero, List.getElem?_cons_succ] at f3 f4; clear f4; go_wp2_with fail
 try go_at_call 4
 refine MU.out _ GA.out _ ?_; intro b w1 hb hg1; have BF := Lh (grow_blk hg1 BF.out); have BZ := Lh (grow_blk hg1 BZ.out); have GA := Lh (GA.out.tr hg1); clear hg1 MU f3
 cases b with
 | true =>
  clear hb; go_wp2_with fail
  try go_at_call 5
  refine live28_any _ ?_; intro w9 hg9; have G9 := Lh (GA.out.tr hg9); clear hg9; go_wp2; exact HR.out _ G9.out
 | false =>
  have HL := Lh (hb rfl); clear hb; have f3 := cell_of_row _ w.heap.size 3 _ _ (0, 0) BF.out; have f4 := cell_of_row _ w.heap.size 4 _ _ (0, 0) BF.out; unfold Ft.cells at f3 f4; simp only [List.getElem?_toArray, List.getElem?_cons_zero, List.getElem?_cons_succ] at f3 f4; clear f3
  by_cases h20 : 20 < n
  ·have t20 : decide ((20 : Int) < (n : Int)) = true := by rw [decide_eq_true_eq]; omega
   clear h20; go_wp2_with fail
   try go_at_call 5
   refine live28_any _ ?_; intro w9 hg9; have G9 := Lh (GA.out.tr hg9); clear hg9; go_wp2; exact HR.out _ G9.out
  ·have t20 : decide ((20 : Int) < (n : Int)) = false := by rw [decide_eq_false_iff_not]; omega
   clear h20; unfold Ft.cells at BF
   have HL4 : Hid (A.length <= 400 /\ ∀ r ∈ A, r.l.length <= 400) := ⟨by have := HL.out.1; omega, fun r hr => by have := HL.out.2 r hr; omega⟩
   go_wp2_with (first | (refine wpList_load_row rfl 26 _ rfl w.heap.size rfl 26 _ _ _ BF.out Tryz.underlying26 rfl (by kernel_rfl) ?_) | (refine wpList_load_row rfl 28 _ rfl (w.heap.size + 1) rfl 28 _ _ _ BZ.out Tryz.underlying28 rfl (by kernel_rfl) ?_))
   try go_at_call 6
   clear f4 t20; refine FC.out _ GA.out HL4.out _ ?_ ?_
   ·intro hbad w4 hg4
    have HBAD := Lh hbad; have BF := Lh (grow_blk hg4 BF.out); have BZ := Lh (grow_blk hg4 BZ.out); have GA := Lh (GA.out.tr hg4); clear hg4 FC hbad; unfold zeroFt Ft.cells; dsimp only; go_upto_region 4 with fail
    have GL : Hid (Grow w4 (w4.alloc (.cells #[.bool false, .int .u64 0, .int .i64 0, .slice none 0 0, .slice none 0 0] 26))) := (Grow.refl _).al _; have FG : Hid ((w4.alloc (.cells #[.bool false, .int .u64 0, .int .i64 0, .slice none 0 0, .slice none 0 0] 26)).heap[w4.heap.size]? = some (.cells #[.bool false, .int .u64 0, .int .i64 0, .slice none 0 0, .slice none 0 0] 26 (0, 0))) := heap_alloc_new _ _; generalize w4.alloc (.cells #[.bool false, .int .u64 0, .int .i64 0, .slice none 0 0, .slice none 0 0] 26) = w5 at *; generalize w4.heap.size = gb at *
    have BF := Lh (grow_blk GL.out BF.out); have BZ := Lh (grow_blk GL.out BZ.out); have GA := Lh (GA.out.tr GL.out); clear GL; go_wp2_with (first | (refine wpList_load_row rfl 26 _ rfl w.heap.size rfl 26 _ _ _ BF.out Tryz.underlying26 rfl (by kernel_rfl) ?_) | (refine wpList_load_row rfl 28 _ rfl (w.heap.size + 1) rfl 28 _ _ _ BZ.out Tryz.underlying28 rfl (by kernel_rfl) ?_))
    try go_at_call 7
    refine RC.out _ GA.out HL4.out _ ?_ ?_
    ·intro _ w6 hg6
     have BF := Lh (grow_blk hg6 BF.out); have BZ := Lh (grow_blk hg6 BZ.out); have GA := Lh (GA.out.tr hg6); have FG := Lh (grow_blk hg6 FG.out); clear hg6 RC; unfold zeroFt Ft.cells; dsimp only; go_upto_region 5 with fail
     have GL : Hid (Grow w6 (w6.alloc (.cells #[.bool false, .int .u64 0, .int .i64 0, .slice none 0 0, .slice none 0 0] 26))) := (Grow.refl _).al _; have FH : Hid ((w6.alloc (.cells #[.bool false, .int .u64 0, .int .i64 0, .slice none 0 0, .slice none 0 0] 26)).heap[w6.heap.size]? = some (.cells #[.bool false, .int .u64 0, .int .i64 0, .slice none 0 0, .slice none 0 0] 26 (0, 0))) := heap_alloc_new _ _; generalize w6.alloc (.cells #[.bool false, .int .u64 0, .int .i64 0, .slice none 0 0, .slice none 0 0] 26) = wr at *; generalize w6.heap.size = hb at *
     have BF := Lh (grow_blk GL.out BF.out); have BZ := Lh (grow_blk GL.out BZ.out); have GA := Lh (GA.out.tr GL.out); have FG := Lh (grow_blk GL.out FG.out); clear GL
     obtain ⟨x, hx⟩ : ∃ x : FtR, x = ⟨zeroFt, [], []⟩ := ⟨_, rfl⟩
     obtain ⟨y, hy⟩ : ∃ y : FtR, y = ⟨zeroFt, [], []⟩ := ⟨_, rfl⟩
     have XY : Hid (x.pl = y.pl) := by rw [hx, hy]; rfl
     have XR : Hid (x.rd wr (fun _ => True)) := by rw [hx]; exact ⟨rd_nilF _ _ 1, fun r hr => (nomatch hr), rd_nilF _ _ 4⟩
     have YR : Hid (y.rd wr (fun _ => True)) := by rw [hy]; exact ⟨rd_nilF _ _ 1, fun r hr => (nomatch hr), rd_nilF _ _ 4⟩
     have XC : Hid (Fts [x] = [.bool false, .int .u64 0, .int .i64 0, .slice none 0 0, .slice none 0 0]) := by rw [hx]; rfl
     have YC : Hid (Fts [y] = [.bool false, .int .u64 0, .int .i64 0, .slice none 0 0, .slice none 0 0]) := by rw [hy]; rfl
     clear hx hy HBAD; refine wp_region_heldW (Grow wr) (by kernel_rfl) 23 rfl ?_; apply held_take (i := 0); exact rfl; exact rfl; kernel_rfl; (intro W hW; exact exec_load_row 28 _ rfl (w.heap.size + 1) rfl 28 _ _ _ (grow_blk hW BZ.out) rfl Tryz.underlying28 (by kernel_rfl))
     try simp only [Act.put, sA, sZ, sS]
     apply held_take (i := 1); exact rfl; exact rfl; kernel_rfl; (intro W hW; (try clear hW); go_simp; with_reducible rfl); try simp only [Act.put, sA, sZ, sS]
     apply held_take (i := 3); exact rfl; exact rfl; kernel_rfl; (intro W hW; exact exec_load_row 28 _ rfl (w.heap.size + 1) rfl 28 _ _ _ (grow_blk hW BZ.out) rfl Tryz.underlying28 (by kernel_rfl))
     try simp only [Act.put, sA, sZ, sS]
     apply held_take (i := 4); exact rfl; exact rfl; kernel_rfl; (intro W hW; (try clear hW); go_simp; with_reducible rfl); try simp only [Act.put, sA, sZ, sS]
     have GR : Hid (Grow wr wr.drew) := (Grow.refl _).dr; have GW : Hid (Grow wr wr.drew) := (Grow.refl _).dr; generalize wr.drew = w0 at *; refine held_all (rs := [2]) (by intro c a d v w h; cases d <;> exact h) (GR.out) (by kernel_rfl) rfl ?_; intro i hi; obtain rfl := List.mem_singleton.1 hi; clear hi; apply held_turn; exact rfl; exact rfl; intro K hK; go_simp
     try go_at_call 8
     refine OR.out _ _ ?_; intro w1 hg1; have GR := Lh (GR.out.tr hg1); refine hK.out _ _ ?_; clear hK hg1
     try simp only [Act.put, sA, sZ, sS]
     refine held_all (rs := [5]) (by intro c a d v w h; cases d <;> exact h) (GR.out) (by kernel_rfl) rfl ?_; intro i hi; obtain rfl := List.mem_singleton.1 hi; clear hi; apply held_turn; exact rfl; exact rfl; intro K hK; go_simp
     try go_at_call 9
     refine RR.out _ _ ?_; intro w2 hg2; have GR := Lh (GR.out.tr hg2); have GW := Lh GR.out; refine hK.out _ _ ?_; clear hK hg2
     try simp only [Act.put, sA, sZ, sS]
     apply held_take (i := 6); exact rfl; exact rfl; kernel_rfl; (intro W hW; (try clear hW); go_simp; with_reducible rfl); try simp only [Act.put, sA, sZ, sS]
     apply held_take (i := 7); exact rfl; exact rfl; kernel_rfl; (intro W hW; (try clear hW); go_simp; with_reducible rfl); try simp only [Act.put, sA, sZ, sS]
     apply held_take (i := 8); exact rfl; exact rfl; kernel_rfl; (intro W hW; (try clear hW); go_simp; with_reducible rfl); try simp only [Act.put, sA, sZ, sS]
     apply held_take (i := 9); exact rfl; exact rfl; kernel_rfl; (intro W hW; (try clear hW); go_simp; with_reducible rfl); try simp only [Act.put, sA, sZ, sS]
     apply held_take (i := 10); exact rfl; exact rfl; kernel_rfl; (intro W hW; (try clear hW); go_simp; with_reducible rfl); try simp only [Act.put, sA, sZ, sS]
     apply held_take (i := 11); exact rfl; exact rfl; kernel_rfl; (intro W hW; (try clear hW); go_simp; with_reducible rfl); try simp only [Act.put, sA, sZ, sS]
     apply held_take (i := 12); exact rfl; exact rfl; kernel_rfl; (intro W hW; (try clear hW); go_simp; with_reducible rfl); try simp only [Act.put, sA, sZ, sS]
     apply held_take (i := 13); exact rfl; exact rfl; kernel_rfl; (intro W hW; exact exec_load_row 26 _ rfl gb rfl 26 _ _ _ (grow_blk hW FG.out) rfl Tryz.underlying26 (by kernel_rfl))
     try simp only [Act.put, sA, sZ, sS]
     apply held_take (i := 15); exact rfl; exact rfl; kernel_rfl; (intro W hW; exact exec_load_row 26 _ rfl hb rfl 26 _ _ _ (grow_blk hW FH.out) rfl Tryz.underlying26 (by kernel_rfl))
     try simp only [Act.put, sA, sZ, sS]
     refine held_all (rs := [14, 16]) (by intro c a d v w h; cases d <;> exact h) GR.out (by kernel_rfl) rfl ?_; intro i hi; rcases List.mem_cons.1 hi with rfl | hi
     case' inl =>
      clear hi; apply held_turn; exact rfl; exact rfl; intro K hK; go_simp; refine hK.out _ _ ?_; clear hK
      try simp only [Act.put, sA, sZ, sS]
      refine held_all (rs := [16]) (by intro c a d v w h; cases d <;> exact h) (GR.out.al _) (by kernel_rfl) rfl ?_; intro i hi; obtain rfl := List.mem_singleton.1 hi; clear hi; apply held_turn; exact rfl; exact rfl; intro K hK; go_simp; refine hK.out _ _ ?_; clear hK
      try simp only [Act.put, sA, sZ, sS]
      have GV : Hid (Grow w2 ((w2.alloc (.cells #[.bool false, .int .u64 0, .int .i64 0, .slice none 0 0, .slice none 0 0] 26)).alloc (.cells #[.bool false, .int .u64 0, .int .i64 0, .slice none 0 0, .slice none 0 0] 26))) := ((Grow.refl _).al _).al _
      have R1 : Hid (Rd ((w2.alloc (.cells #[.bool false, .int .u64 0, .int .i64 0, .slice none 0 0, .slice none 0 0] 26)).alloc (.cells #[.bool false, .int .u64 0, .int .i64 0, .slice none 0 0, .slice none 0 0] 26)) _ 5 (.slice (some ⟨w2.heap.size, 0, none⟩) 1 1) 1 [.bool false, .int .u64 0, .int .i64 0, .slice none 0 0, .slice none 0 0]) := (Rd.lit w2 #[.bool false, .int .u64 0, .int .i64 0, .slice none 0 0, .slice none 0 0] 26 1 (by decide) rfl).gr2 (by decide) ((Grow.refl _).al _)
      have R2 := Lh (Rd.lit (w2.alloc (.cells #[.bool false, .int .u64 0, .int .i64 0, .slice none 0 0, .slice none 0 0] 26)) #[.bool false, .int .u64 0, .int .i64 0, .slice none 0 0, .slice none 0 0] 26 1 (by decide) rfl : Rd _ _ 5 _ 1 [.bool false, .int .u64 0, .int .i64 0, .slice none 0 0, .slice none 0 0]); rw [World.size_alloc] at R2; generalize (w2.alloc (.cells #[.bool false, .int .u64 0, .int .i64 0, .slice none 0 0, .slice none 0 0] 26)).alloc (.cells #[.bool false, .int .u64 0, .int .i64 0, .slice none 0 0, .slice none 0 0] 26) = w3 at *; have RA := R1; have RB := R2; clear R1 R2
     case' inr =>
      obtain rfl := List.mem_singleton.1 hi; clear hi; apply held_turn; exact rfl; exact rfl; intro K hK; go_simp; refine hK.out _ _ ?_; clear hK
      try simp only [Act.put, sA, sZ, sS]
      refine held_all (rs := [14]) (by intro c a d v w h; cases d <;> exact h) (GR.out.al _) (by kernel_rfl) rfl ?_; intro i hi; obtain rfl := List.mem_singleton.1 hi; clear hi; apply held_turn; exact rfl; exact rfl; intro K hK; go_simp; refine hK.out _ _ ?_; clear hK
      try simp only [Act.put, sA, sZ, sS]
      have GV : Hid (Grow w2 ((w2.alloc (.cells #[.bool false, .int .u64 0, .int .i64 0, .slice none 0 0, .slice none 0 0] 26)).alloc (.cells #[.bool false, .int .u64 0, .int .i64 0, .slice none 0 0, .slice none 0 0] 26))) := ((Grow.refl _).al _).al _
      have R1 : Hid (Rd ((w2.alloc (.cells #[.bool false, .int .u64 0, .int .i64 0, .slice none 0 0, .slice none 0 0] 26)).alloc (.cells #[.bool false, .int .u64 0, .int .i64 0, .slice none 0 0, .slice none 0 0] 26)) _ 5 (.slice (some ⟨w2.heap.size, 0, none⟩) 1 1) 1 [.bool false, .int .u64 0, .int .i64 0, .slice none 0 0, .slice none 0 0]) := (Rd.lit w2 #[.bool false, .int .u64 0, .int .i64 0, .slice none 0 0, .slice none 0 0] 26 1 (by decide) rfl).gr2 (by decide) ((Grow.refl _).al _)
      have R2 := Lh (Rd.lit (w2.alloc (.cells #[.bool false, .int .u64 0, .int .i64 0, .slice none 0 0, .slice none 0 0] 26)) #[.bool false, .int .u64 0, .int .i64 0, .slice none 0 0, .slice none 0 0] 26 1 (by decide) rfl : Rd _ _ 5 _ 1 [.bool false, .int .u64 0, .int .i64 0, .slice none 0 0, .slice none 0 0]); rw [World.size_alloc] at R2; generalize (w2.alloc (.cells #[.bool false, .int .u64 0, .int .i64 0, .slice none 0 0, .slice none 0 0] 26)).alloc (.cells #[.bool false, .int .u64 0, .int .i64 0, .slice none 0 0, .slice none 0 0] 26) = w3 at *; have RA := R2; have RB := R1; clear R1 R2
     all_goals
      refine held_all (rs := [17]) (by intro c a d v w h; cases d <;> exact h) ((GR.out.tr GV.out)) (by kernel_rfl) rfl ?_; intro i hi; obtain rfl := List.mem_singleton.1 hi; clear hi; apply held_turn; exact rfl; exact rfl; intro K hK; go_simp
      try go_at_call 10
      refine sameFeatures_any _ _ [x] [y] _ _ _ _ w3 (by rw [XC.out]; exact RA.out) (fun u hu => by rw [List.mem_singleton.1 hu]; exact XR.out.gr (GW.out.tr GV.out)) (by rw [YC.out]; exact RB.out) (fun u hu => by rw [List.mem_singleton.1 hu]; exact YR.out.gr (GW.out.tr GV.out)) ?_; intro c w4 hc hg4; obtain rfl : c = true := hc.2 (by rw [List.map_singleton, List.map_singleton, XY.out]); have GR := Lh ((GR.out.tr GV.out).tr hg4); refine hK.out _ _ ?_; clear hK hc hg4
      try simp only [Act.put, sA, sZ, sS]
      apply held_take (i := 18); exact rfl; exact rfl; kernel_rfl; (intro W hW; (try clear hW); go_simp; with_reducible rfl); try simp only [Act.put, sA, sZ, sS]
      apply held_take (i := 19); exact rfl; exact rfl; kernel_rfl; (intro W hW; (try clear hW); go_simp; with_reducible rfl); try simp only [Act.put, sA, sZ, sS]
      refine held_all (rs := [20]) (by intro c a d v w h; cases d <;> exact h) (GR.out) (by kernel_rfl) rfl ?_; intro i hi; obtain rfl := List.mem_singleton.1 hi; clear hi; apply held_turn; exact rfl; exact rfl; intro K hK; go_simp
      try go_at_call 5
      refine live28_any _ ?_; intro w5 hg5; have GR := Lh (GR.out.tr hg5); refine hK.out _ _ ?_; clear hK hg5
      try simp only [Act.put, sA, sZ, sS]
      apply held_take (i := 21); exact rfl; exact rfl; kernel_rfl; (intro W hW; (try clear hW); go_simp; with_reducible rfl); try simp only [Act.put, sA, sZ, sS]
      apply held_take (i := 22); exact rfl; exact rfl; kernel_rfl; (intro W hW; (try clear hW); go_simp; with_reducible rfl); try simp only [Act.put, sA, sZ, sS]
      refine held_done (by intro c a d v w h; cases d <;> exact h) GR.out (by kernel_rfl) ?_; have GF := Lh (GA.out.tr GR.out); go_wp2; exact HR.out _ GF.out
    ·intro hz hpr hne
     exact absurd (HBAD.out hz hpr) hne
   ·intro hz hpr hne pv1 av1 rows1 w4 hg4 hp1 hr1 hm1 ha1
    have HZ := Lh hz; have HPR := Lh hpr; have HNE := Lh hne; have HP1 := Lh hp1; have HR1 := Lh hr1; have HM1 := Lh hm1; have HA1 := Lh ha1; obtain ⟨_, P1, c1, rfl, -, -, -, -⟩ := hp1; obtain ⟨_, Q1, d1, rfl, -, -, -, -⟩ := ha1; have BF := Lh (grow_blk hg4 BF.out); have BZ := Lh (grow_blk hg4 BZ.out); have GA := Lh (GA.out.tr hg4); clear hg4 FC hz hpr hne hr1 hm1; unfold Ft.cells; dsimp only; go_upto_region 4 with fail
    have GL : Hid (Grow w4 (w4.alloc (.cells #[.bool h, .int .u64 id, .int .i64 ty, .slice P1 rows1.length c1, .slice Q1 n d1] 26))) := (Grow.refl _).al _; have FG : Hid ((w4.alloc (.cells #[.bool h, .int .u64 id, .int .i64 ty, .slice P1 rows1.length c1, .slice Q1 n d1] 26)).heap[w4.heap.size]? = some (.cells #[.bool h, .int .u64 id, .int .i64 ty, .slice P1 rows1.length c1, .slice Q1 n d1] 26 (0, 0))) := heap_alloc_new _ _; generalize w4.alloc (.cells #[.bool h, .int .u64 id, .int .i64 ty, .slice P1 rows1.length c1, .slice Q1 n d1] 26) = w5 at *; generalize w4.heap.size = gb at *
    have BF := Lh (grow_blk GL.out BF.out); have BZ := Lh (grow_blk GL.out BZ.out); have GA := Lh (GA.out.tr GL.out); have HP1 := Lh (HP1.out.gr2 (by decide) GL.out); have HR1 : Hid (∀ r ∈ rows1, r.rd w5 (fun _ => True)) := fun r hr => (HR1.out r hr).gr2 (by decide) GL.out
    have HA1 := Lh (HA1.out.gr2 (by decide) GL.out); clear GL; go_wp2_with (first | (refine wpList_load_row rfl 26 _ rfl w.heap.size rfl 26 _ _ _ BF.out Tryz.underlying26 rfl (by kernel_rfl) ?_) | (refine wpList_load_row rfl 28 _ rfl (w.heap.size + 1) rfl 28 _ _ _ BZ.out Tryz.underlying28 rfl (by kernel_rfl) ?_))
    try go_at_call 7
    refine RC.out _ GA.out HL4.out _ ?_ ?_
    ·intro hbad
     exact absurd (hbad HZ.out HPR.out) HNE.out
    ·intro _ _ _ pv2 av2 rows2 w6 hg6 hp2 hr2 hm2 ha2
     have HP2 := Lh hp2; have HR2 := Lh hr2; have HM2 := Lh hm2; have HA2 := Lh ha2; obtain ⟨_, P2, c2, rfl, -, -, -, -⟩ := hp2; obtain ⟨_, Q2, d2, rfl, -, -, -, -⟩ := ha2; have BF := Lh (grow_blk hg6 BF.out); have BZ := Lh (grow_blk hg6 BZ.out); have GA := Lh (GA.out.tr hg6); have FG := Lh (grow_blk hg6 FG.out); have HP1 := Lh (HP1.out.gr2 (by decide) hg6); have HR1 : Hid (∀ r ∈ rows1, r.rd w6 (fun _ => True)) := fun r hr => (HR1.out r hr).gr2 (by decide) hg6
     have HA1 := Lh (HA1.out.gr2 (by decide) hg6); clear hg6 RC hr2 hm2; unfold Ft.cells; dsimp only; go_upto_region 5 with fail
     have GL : Hid (Grow w6 (w6.alloc (.cells #[.bool h, .int .u64 id, .int .i64 ty, .slice P2 rows2.length c2, .slice Q2 n d2] 26))) := (Grow.refl _).al _; have FH : Hid ((w6.alloc (.cells #[.bool h, .int .u64 id, .int .i64 ty, .slice P2 rows2.length c2, .slice Q2 n d2] 26)).heap[w6.heap.size]? = some (.cells #[.bool h, .int .u64 id, .int .i64 ty, .slice P2 rows2.length c2, .slice Q2 n d2] 26 (0, 0))) := heap_alloc_new _ _; generalize w6.alloc (.cells #[.bool h, .int .u64 id, .int .i64 ty, .slice P2 rows2.length c2, .slice Q2 n d2] 26) = wr at *; generalize w6.heap.size = hb at *
     have BF := Lh (grow_blk GL.out BF.out); have BZ := Lh (grow_blk GL.out BZ.out); have GA := Lh (GA.out.tr GL.out); have FG := Lh (grow_blk GL.out FG.out)
     obtain ⟨x, hx⟩ : ∃ x : FtR, x = ⟨⟨h, id, ty, .slice P1 rows1.length c1, .slice Q1 n d1⟩, rows1, B⟩ := ⟨_, rfl⟩
     obtain ⟨y, hy⟩ : ∃ y : FtR, y = ⟨⟨h, id, ty, .slice P2 rows2.length c2, .slice Q2 n d2⟩, rows2, B⟩ := ⟨_, rfl⟩
     have XY : Hid (x.pl = y.pl) := by
      rw [hx, hy]; unfold Hid; rw [FtR.pl_iff]; exact ⟨rfl, rfl, rfl, HM1.out.trans HM2.out.symm, rfl⟩
     have XR : Hid (x.rd wr (fun _ => True)) := by
      rw [hx]; refine ⟨HP1.out.gr2 (by decide) GL.out, fun r hr => (HR1.out r hr).gr2 (by decide) GL.out, ?_⟩; have := HA1.out.gr2 (by decide) GL.out; rw [HNB.out] at this ⊢; exact this
     have YR : Hid (y.rd wr (fun _ => True)) := by
      rw [hy]; refine ⟨HP2.out.gr2 (by decide) GL.out, fun r hr => (HR2.out r hr).gr2 (by decide) GL.out, ?_⟩; have := HA2.out.gr2 (by decide) GL.out; rw [HNB.out] at this ⊢; exact this
     have XC : Hid (Fts [x] = [.bool h, .int .u64 id, .int .i64 ty, .slice P1 rows1.length c1, .slice Q1 n d1]) := by rw [hx]; rfl
     have YC : Hid (Fts [y] = [.bool h, .int .u64 id, .int .i64 ty, .slice P2 rows2.length c2, .slice Q2 n d2]) := by rw [hy]; rfl
     clear hx hy GL HP1 HP2 HR1 HR2 HA1 HA2; refine wp_region_heldW (Grow wr) (by kernel_rfl) 23 rfl ?_; apply held_take (i := 0); exact rfl; exact rfl; kernel_rfl; (intro W hW; exact exec_load_row 28 _ rfl (w.heap.size + 1) rfl 28 _ _ _ (grow_blk hW BZ.out) rfl Tryz.underlying28 (by kernel_rfl))
     try simp only [Act.put, sA, sZ, sS]
     apply held_take (i := 1); exact rfl; exact rfl; kernel_rfl; (intro W hW; (try clear hW); go_simp; with_reducible rfl); try simp only [Act.put, sA, sZ, sS]
     apply held_take (i := 3); exact rfl; exact rfl; kernel_rfl; (intro W hW; exact exec_load_row 28 _ rfl (w.heap.size + 1) rfl 28 _ _ _ (grow_blk hW BZ.out) rfl Tryz.underlying28 (by kernel_rfl))
     try simp only [Act.put, sA, sZ, sS]
     apply held_take (i := 4); exact rfl; exact rfl; kernel_rfl; (intro W hW; (try clear hW); go_simp; with_reducible rfl); try simp only [Act.put, sA, sZ, sS]
     have GR : Hid (Grow wr wr.drew) := (Grow.refl _).dr; have GW : Hid (Grow wr wr.drew) := (Grow.refl _).dr; generalize wr.drew = w0 at *; refine held_all (rs := [2]) (by intro c a d v w h; cases d <;> exact h) (GR.out) (by kernel_rfl) rfl ?_; intro i hi; obtain rfl := List.mem_singleton.1 hi; clear hi; apply held_turn; exact rfl; exact rfl; intro K hK; go_simp
     try go_at_call 8
     refine OR.out _ _ ?_; intro w1 hg1; have GR := Lh (GR.out.tr hg1); refine hK.out _ _ ?_; clear hK hg1
     try simp only [Act.put, sA, sZ, sS]
     refine held_all (rs := [5]) (by intro c a d v w h; cases d <;> exact h) (GR.out) (by kernel_rfl) rfl ?_; intro i hi; obtain rfl := List.mem_singleton.1 hi; clear hi; apply held_turn; exact rfl; exact rfl; intro K hK; go_simp
     try go_at_call 9
     refine RR.out _ _ ?_; intro w2 hg2; have GR := Lh (GR.out.tr hg2); have GW := Lh GR.out; refine hK.out _ _ ?_; clear hK hg2
     try simp only [Act.put, sA, sZ, sS]
     apply held_take (i := 6); exact rfl; exact rfl; kernel_rfl; (intro W hW; (try clear hW); go_simp; with_reducible rfl); try simp only [Act.put, sA, sZ, sS]
     apply held_take (i := 7); exact rfl; exact rfl; kernel_rfl; (intro W hW; (try clear hW); go_simp; with_reducible rfl); try simp only [Act.put, sA, sZ, sS]
     apply held_take (i := 8); exact rfl; exact rfl; kernel_rfl; (intro W hW; (try clear hW); go_simp; with_reducible rfl); try simp only [Act.put, sA, sZ, sS]
     apply held_take (i := 9); exact rfl; exact rfl; kernel_rfl; (intro W hW; (try clear hW); go_simp; with_reducible rfl); try simp only [Act.put, sA, sZ, sS]
     apply held_take (i := 10); exact rfl; exact rfl; kernel_rfl; (intro W hW; (try clear hW); go_simp; with_reducible rfl); try simp only [Act.put, sA, sZ, sS]
     apply held_take (i := 11); exact rfl; exact rfl; kernel_rfl; (intro W hW; (try clear hW); go_simp; with_reducible rfl); try simp only [Act.put, sA, sZ, sS]
     apply held_take (i := 12); exact rfl; exact rfl; kernel_rfl; (intro W hW; (try clear hW); go_simp; with_reducible rfl); try simp only [Act.put, sA, sZ, sS]
     apply held_take (i := 13); exact rfl; exact rfl; kernel_rfl; (intro W hW; exact exec_load_row 26 _ rfl gb rfl 26 _ _ _ (grow_blk hW FG.out) rfl Tryz.underlying26 (by kernel_rfl))
     try simp only [Act.put, sA, sZ, sS]
     apply held_take (i := 15); exact rfl; exact rfl; kernel_rfl; (intro W hW; exact exec_load_row 26 _ rfl hb rfl 26 _ _ _ (grow_blk hW FH.out) rfl Tryz.underlying26 (by kernel_rfl))
     try simp only [Act.put, sA, sZ, sS]
     refine held_all (rs := [14, 16]) (by intro c a d v w h; cases d <;> exact h) GR.out (by kernel_rfl) rfl ?_; intro i hi; rcases List.mem_cons.1 hi with rfl | hi
     case' inl =>
      clear hi; apply held_turn; exact rfl; exact rfl; intro K hK; go_simp; refine hK.out _ _ ?_; clear hK
      try simp only [Act.put, sA, sZ, sS]
      refine held_all (rs := [16]) (by intro c a d v w h; cases d <;> exact h) (GR.out.al _) (by kernel_rfl) rfl ?_; intro i hi; obtain rfl := List.mem_singleton.1 hi; clear hi; apply held_turn; exact rfl; exact rfl; intro K hK; go_simp; refine hK.out _ _ ?_; clear hK
      try simp only [Act.put, sA, sZ, sS]
      have GV : Hid (Grow w2 ((w2.alloc (.cells #[.bool h, .int .u64 id, .int .i64 ty, .slice P1 rows1.length c1, .slice Q1 n d1] 26)).alloc (.cells #[.bool h, .int .u64 id, .int .i64 ty, .slice P2 rows2.length c2, .slice Q2 n d2] 26))) := ((Grow.refl _).al _).al _
      have R1 : Hid (Rd ((w2.alloc (.cells #[.bool h, .int .u64 id, .int .i64 ty, .slice P1 rows1.length c1, .slice Q1 n d1] 26)).alloc (.cells #[.bool h, .int .u64 id, .int .i64 ty, .slice P2 rows2.length c2, .slice Q2 n d2] 26)) _ 5 (.slice (some ⟨w2.heap.size, 0, none⟩) 1 1) 1 [.bool h, .int .u64 id, .int .i64 ty, .slice P1 rows1.length c1, .slice Q1 n d1]) := (Rd.lit w2 #[.bool h, .int .u64 id, .int .i64 ty, .slice P1 rows1.length c1, .slice Q1 n d1] 26 1 (by decide) rfl).gr2 (by decide) ((Grow.refl _).al _)
      have R2 := Lh (Rd.lit (w2.alloc (.cells #[.bool h, .int .u64 id, .int .i64 ty, .slice P1 rows1.length c1, .slice Q1 n d1] 26)) #[.bool h, .int .u64 id, .int .i64 ty, .slice P2 rows2.length c2, .slice Q2 n d2] 26 1 (by decide) rfl : Rd _ _ 5 _ 1 [.bool h, .int .u64 id, .int .i64 ty, .slice P2 rows2.length c2, .slice Q2 n d2]); rw [World.size_alloc] at R2; generalize (w2.alloc (.cells #[.bool h, .int .u64 id, .int .i64 ty, .slice P1 rows1.length c1, .slice Q1 n d1] 26)).alloc (.cells #[.bool h, .int .u64 id, .int .i64 ty, .slice P2 rows2.length c2, .slice Q2 n d2] 26) = w3 at *
      have RA := R1; have RB := R2; clear R1 R2
     case' inr =>
      obtain rfl := List.mem_singleton.1 hi; clear hi; apply held_turn; exact rfl; exact rfl; intro K hK; go_simp; refine hK.out _ _ ?_; clear hK
      try simp only [Act.put, sA, sZ, sS]
      refine held_all (rs := [14]) (by intro c a d v w h; cases d <;> exact h) (GR.out.al _) (by kernel_rfl) rfl ?_; intro i hi; obtain rfl := List.mem_singleton.1 hi; clear hi; apply held_turn; exact rfl; exact rfl; intro K hK; go_simp; refine hK.out _ _ ?_; clear hK
      try simp only [Act.put, sA, sZ, sS]
      have GV : Hid (Grow w2 ((w2.alloc (.cells #[.bool h, .int .u64 id, .int .i64 ty, .slice P2 rows2.length c2, .slice Q2 n d2] 26)).alloc (.cells #[.bool h, .int .u64 id, .int .i64 ty, .slice P1 rows1.length c1, .slice Q1 n d1] 26))) := ((Grow.refl _).al _).al _
      have R1 : Hid (Rd ((w2.alloc (.cells #[.bool h, .int .u64 id, .int .i64 ty, .slice P2 rows2.length c2, .slice Q2 n d2] 26)).alloc (.cells #[.bool h, .int .u64 id, .int .i64 ty, .slice P1 rows1.length c1, .slice Q1 n d1] 26)) _ 5 (.slice (some ⟨w2.heap.size, 0, none⟩) 1 1) 1 [.bool h, .int .u64 id, .int .i64 ty, .slice P2 rows2.length c2, .slice Q2 n d2]) := (Rd.lit w2 #[.bool h, .int .u64 id, .int .i64 ty, .slice P2 rows2.length c2, .slice Q2 n d2] 26 1 (by decide) rfl).gr2 (by decide) ((Grow.refl _).al _)
      have R2 := Lh (Rd.lit (w2.alloc (.cells #[.bool h, .int .u64 id, .int .i64 ty, .slice P2 rows2.length c2, .slice Q2 n d2] 26)) #[.bool h, .int .u64 id, .int .i64 ty, .slice P1 rows1.length c1, .slice Q1 n d1] 26 1 (by decide) rfl : Rd _ _ 5 _ 1 [.bool h, .int .u64 id, .int .i64 ty, .slice P1 rows1.length c1, .slice Q1 n d1]); rw [World.size_alloc] at R2; generalize (w2.alloc (.cells #[.bool h, .int .u64 id, .int .i64 ty, .slice P2 rows2.length c2, .slice Q2 n d2] 26)).alloc (.cells #[.bool h, .int .u64 id, .int .i64 ty, .slice P1 rows1.length c1, .slice Q1 n d1] 26) = w3 at *
      have RA := R2; have RB := R1; clear R1 R2
     all_goals
      refine held_all (rs := [17]) (by intro c a d v w h; cases d <;> exact h) ((GR.out.tr GV.out)) (by kernel_rfl) rfl ?_; intro i hi; obtain rfl := List.mem_singleton.1 hi; clear hi; apply held_turn; exact rfl; exact rfl; intro K hK; go_simp
      try go_at_call 10
      refine sameFeatures_any _ _ [x] [y] _ _ _ _ w3 (by rw [XC.out]; exact RA.out) (fun u hu => by rw [List.mem_singleton.1 hu]; exact XR.out.gr (GW.out.tr GV.out)) (by rw [YC.out]; exact RB.out) (fun u hu => by rw [List.mem_singleton.1 hu]; exact YR.out.gr (GW.out.tr GV.out)) ?_; intro c w4 hc hg4; obtain rfl : c = true := hc.2 (by rw [List.map_singleton, List.map_singleton, XY.out]); have GR := Lh ((GR.out.tr GV.out).tr hg4); refine hK.out _ _ ?_; clear hK hc hg4
      try simp only [Act.put, sA, sZ, sS]
      apply held_take (i := 18); exact rfl; exact rfl; kernel_rfl; (intro W hW; (try clear hW); go_simp; with_reducible rfl); try simp only [Act.put, sA, sZ, sS]
      apply held_take (i := 19); exact rfl; exact rfl; kernel_rfl; (intro W hW; (try clear hW); go_simp; with_reducible rfl); try simp only [Act.put, sA, sZ, sS]
      refine held_all (rs := [20]) (by intro c a d v w h; cases d <;> exact h) (GR.out) (by kernel_rfl) rfl ?_; intro i hi; obtain rfl := List.mem_singleton.1 hi; clear hi; apply held_turn; exact rfl; exact rfl; intro K hK; go_simp
      try go_at_call 5
      refine live28_any _ ?_; intro w5 hg5; have GR := Lh (GR.out.tr hg5); refine hK.out _ _ ?_; clear hK hg5
      try simp only [Act.put, sA, sZ, sS]
      apply held_take (i := 21); exact rfl; exact rfl; kernel_rfl; (intro W hW; (try clear hW); go_simp; with_reducible rfl); try simp only [Act.put, sA, sZ, sS]
      apply held_take (i := 22); exact rfl; exact rfl; kernel_rfl; (intro W hW; (try clear hW); go_simp; with_reducible rfl); try simp only [Act.put, sA, sZ, sS]
      refine held_done (by intro c a d v w h; cases d <;> exact h) GR.out (by kernel_rfl) ?_; have GF := Lh (GA.out.tr GR.out); go_wp2; exact HR.out _ GF.out
end Go.Proofs.YtfdjdfobhkmlpaaGreat
