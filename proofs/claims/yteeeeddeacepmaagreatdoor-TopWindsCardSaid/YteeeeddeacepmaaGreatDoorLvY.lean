import Derived.Test.YteeeeddeacepmaaGreatDoorLvX
namespace Go.Proofs.YteeeeddeacepmaaGreatDoor
set_option maxRecDepth 100000
open Go.RowKit B
set_option maxHeartbeats 4000000 in
theorem kput_q (w0 w : World) (s c : Nat) (hs : BoxH w0 s #[.pointer (some ⟨c, 0, none⟩), .int .i64 0, .slice none 0 0, .slice none 0 0] 128 w) (hc : w.cell? ⟨c, 0, none⟩ = some (.int .i64 0)) (hcs : c < s) (hT : TenIs w0) {R : Ending -> World -> Prop}
  (hR : ∀ w', But s c w w' -> R (.returned (.tuple #[])) w') :
  Calls Tryz.prog 88 #[.pointer (some ⟨s, 0, none⟩), .string ⟨#[47, 97, 46, 106, 115, 111, 110]⟩, .agg #[.slice none 0 0, .string ⟨#[]⟩, .int .i64 404]] w R := by
 have HR := Lh hR
 obtain ⟨wa, hwa⟩ : ∃ wa, wa = w.alloc (.cells c4 135) := ⟨_, rfl⟩
 have GA : Hid (Grow w wa) := by subst hwa; exact (Grow.refl _).al _
 have BX : Hid (BoxH w w.heap.size c4 135 wa) := by subst hwa; exact BoxH.laid _ _ (Grow.refl _)
 have SL : Hid (s < w.heap.size /\ w0.heap.size <= s) := ⟨hs.lt, hs.2.1⟩
 have BS := Lh (hs.tr GA.out); have c1 := BS.out.cell 1; have f1 := BS.out.free 1; simp only [List.getElem?_toArray, List.getElem?_cons_zero, List.getElem?_cons_succ] at c1; have CC : Hid (wa.cell? ⟨c, 0, none⟩ = some (.int .i64 0)) := (GA.out.cell (p := ⟨c, 0, none⟩) (World.block_lt_of_cell? _ _ hc)).trans hc; have HT := Lh hT; have NE : Hid (c < s) := hcs; clear hR hs hc hT hcs; go_enter Tryz.func88, Tryz.ntmps88
 go_upto_region 1 with fail
 rw [show w.alloc (.cells #[.slice none 0 0, .string ⟨#[]⟩, .int .i64 404] 135) = wa from hwa.symm]; clear hwa; go_upto_region 2 with fail
 have B1 : Hid (But s c w (wa.setCell ⟨s, 1, none⟩ (.int .i64 1))) := (But.of GA.out).tr (But.set s c wa (.inl rfl) 1 _); have BS1 := Lh (BS.out.set 1 (.int .i64 1)); have BX1 : Hid ((wa.setCell ⟨s, 1, none⟩ (.int .i64 1)).heap[w.heap.size]? = some (.cells c4 135 (0, 0))) := (lv_oth wa s 1 _ (show w.heap.size ≠ s by have := SL.out.1; omega)).trans BX.out.2.2; have CC1 : Hid ((wa.setCell ⟨s, 1, none⟩ (.int .i64 1)).cell? ⟨c, 0, none⟩ = some (.int .i64 0)) := (World.cell?_of_block (lv_oth wa s 1 _ (show c ≠ s by have := NE.out; omega))).trans CC.out
 have GT : Hid (TenIs (wa.setCell ⟨s, 1, none⟩ (.int .i64 1))) := HT.out.gr BS1.out.grow; clear BS BX CC GA c1 f1; generalize wa.setCell ⟨s, 1, none⟩ (.int .i64 1) = wb at *; refine wp_region_lexT (Grow wb.drew) ((Grow.refl _)) 7 [0, 1, 2, 3, 4, 5, 6] (by kernel_rfl) (by kernel_rfl) (by intro c a d v w h; cases d <;> exact h) ?_; have GD : Grow wb wb.drew := (Grow.refl wb).dr; have B1 := Lh (B1.out.tr (But.of GD)); have BS1 := Lh (BS1.out.tr GD); have BX1 := Lh (grow_blk GD BX1.out); have CC1 : Hid (wb.drew.cell? ⟨c, 0, none⟩ = some (.int .i64 0)) := CC1.out
 have GT := Lh (GT.out.gr GD); clear GD; generalize wb.drew = wd at *
 iterate 6 (apply lext_take; exact rfl; exact rfl; (intro W hW; have s0 := (BS1.out.tr hW).cell 0; have y0 := cell_of_row W w.heap.size 0 c4 _ _ (grow_blk hW BX1.out); have y1 := cell_of_row W w.heap.size 1 c4 _ _ (grow_blk hW BX1.out); have y2 := cell_of_row W w.heap.size 2 c4 _ _ (grow_blk hW BX1.out); unfold c4 at y0 y1 y2; simp only [List.getElem?_toArray, List.getElem?_cons_zero, List.getElem?_cons_succ] at y0 y1 y2 ; simp at s0; (try clear hW); go_simp; with_reducible rfl); try simp only [Act.put, sA, sZ, sS])
 apply lext_turn; exact rfl; exact rfl; exact rfl; intro K hK; go_simp; go_at_call 135; refine bytes_q _ GT.out ?_; intro b n k w1 hg1; have G1 := Lh hg1; refine hK.out _ _ G1.out ?_; clear hK hg1
 try simp only [Act.put, sA, sZ, sS]
 refine lext_nil ?_; simp only [List.drop_succ_cons, List.drop_zero]; have CC2 : Hid (w1.cell? ⟨c, 0, none⟩ = some (.int .i64 0)) := (G1.out.cell (p := ⟨c, 0, none⟩) (World.block_lt_of_cell? _ _ CC1.out)).trans CC1.out; go_wp2_with fail
 go_at_call 134; refine put_q _ c b n k CC2.out ?_; go_wp2
 go_end0
 exact HR.out _ (B1.out.tr (But.of G1.out))
theorem But.blk {s c k : Nat} {w w' : World} {o : Obj} (h : But s c w w') (hk : w.heap[k]? = some o) (h1 : k ≠ s) (h2 : k ≠ c) : w'.heap[k]? = some o := (h.2.2.2.2 k (lt_of_block hk) h1 h2).trans hk
def k0 : Array Value := #[.slice none 0 0, .string ⟨#[]⟩, .int .i64 0]
set_option maxHeartbeats 8000000 in
theorem content_s (w0 w : World) (s c m r : Nat) (hS : Srv w0 s c m r w) (hT : TenIs w0) {R : Ending -> World -> Prop} (hR : ∀ w', But s c w w' -> R (.returned (.agg c4)) w') :
  Calls Tryz.prog 57 #[.pointer (some ⟨s, 0, none⟩), .string ⟨#[47, 97, 46, 106, 115, 111, 110]⟩] w R := by
 have HR := Lh hR
 have NS : Hid (c < w.heap.size /\ s < w.heap.size /\ c < s /\ w0.heap.size <= c /\ w0.heap.size <= s) := ⟨hS.ca.lt, hS.sv.lt, hS.ne, hS.ca.2.1, hS.sv.2.1⟩
 obtain ⟨wa, hwa⟩ : ∃ wa, wa = w.alloc (.cells k0 135) := ⟨_, rfl⟩
 have GA : Hid (Grow w wa) := by subst hwa; exact (Grow.refl _).al _
 have F4 : Hid (wa.heap[w.heap.size]? = some (.cells k0 135 (0, 0))) := by subst hwa; exact heap_alloc_new w _
 have SV := Lh (hS.tr GA.out); have HT := Lh hT; clear hR hS hT; go_enter Tryz.func57, Tryz.ntmps57
 go_upto_region 1 with fail
 rw [show w.alloc (.cells #[.slice none 0 0, .string ⟨#[]⟩, .int .i64 0] 135) = wa from hwa.symm]; clear hwa; go_wp2_with fail
 go_at_call 87; refine kget_miss w0 _ s c m r SV.out ?_; intro w1 hb1 he1 hc1; have B1 := Lh ((But.of GA.out).tr hb1); have F4 := Lh (hb1.blk F4.out (by have := NS.out; omega) (by have := NS.out; omega)); have GW : Hid (Grow w0 w1) := hb1.grow SV.out.gr NS.out.2.2.2.2 NS.out.2.2.2.1
 have S1 : Hid (BoxH w0 s #[.pointer (some ⟨c, 0, none⟩), .int .i64 0, .slice none 0 0, .slice none 0 0] 128 w1) := ⟨GW.out, NS.out.2.2.2.2, he1.trans SV.out.sv.2.2⟩
 have C1 := Lh hc1; have F1 : Hid ((w1.alloc (.cells k0 135)).heap[w1.heap.size]? = some (.cells k0 135 (0, 0))) := heap_alloc_new w1 _; clear hb1 he1 hc1 GA SV; go_upto_region 4 with (refine wpList_store_row rfl 135 _ _ rfl w1.heap.size k0 rfl rfl 135 _ F1.out (by kernel_rfl) rfl (by simp [k0, Value.oneCell']) ?_)
 have G12 : Hid (Grow w1 ((w1.alloc (.cells #[.slice none 0 0, .string ⟨#[]⟩, .int .i64 0] 135)).setRow w1.heap.size k0)) := lv_row ((Grow.refl _).al _) (Nat.le_refl _) _; clear F1; generalize (w1.alloc (.cells #[.slice none 0 0, .string ⟨#[]⟩, .int .i64 0] 135)).setRow w1.heap.size k0 = w2 at *; have B2 := Lh (B1.out.tr (But.of G12.out)); have F4 := Lh (grow_blk G12.out F4.out); have S2 := Lh (S1.out.tr G12.out); have C2 : Hid (w2.cell? ⟨c, 0, none⟩ = some (.int .i64 0)) := (G12.out.cell (p := ⟨c, 0, none⟩) (World.block_lt_of_cell? _ _ C1.out)).trans C1.out
 clear B1 GW S1 C1 G12; go_upto_region 5 with fail
 have F7 : Hid ((w2.alloc (.cells #[.slice none 0 0, .string ⟨#[]⟩, .int .i64 0] 135)).heap[w2.heap.size]? = some (.cells k0 135 (0, 0))) := heap_alloc_new w2 _; have G23 : Hid (Grow w2 (w2.alloc (.cells #[.slice none 0 0, .string ⟨#[]⟩, .int .i64 0] 135))) := (Grow.refl _).al _; generalize w2.alloc (.cells #[.slice none 0 0, .string ⟨#[]⟩, .int .i64 0] 135) = w3 at *
 obtain ⟨b7, hb7⟩ : ∃ b7, b7 = w2.heap.size := ⟨_, rfl⟩
 rw [<- hb7] at F7 ⊢
 have LB : Hid (w2.heap.size <= b7 /\ w.heap.size < b7) := ⟨by rw [hb7]; exact Nat.le_refl _, by rw [hb7]; exact lt_of_block F4.out⟩
 clear hb7; refine wp_region_lexT (Grow w2) ((G23.out.tr (Grow.refl _).dr)) 18 [0, 1, 2, 3, 4, 5, 6, 7, 8, 9, 10, 11, 12, 13, 14, 15, 16, 17] (by kernel_rfl) (by kernel_rfl) (by intro c a d v w h; cases d <;> exact h) ?_; have G23 : Hid (Grow w2 w3.drew) := G23.out.tr (Grow.refl _).dr; have F7 : Hid (w3.drew.heap[b7]? = some (.cells k0 135 (0, 0))) := F7.out; generalize w3.drew = w4 at *
 iterate 9 (apply lext_take; exact rfl; exact rfl; (intro W hW; have s2 := (S2.out.tr hW).cell 2; have s3 := (S2.out.tr hW).cell 3; simp only [List.getElem?_toArray, List.getElem?_cons_zero, List.getElem?_cons_succ] at s2 s3; (try clear hW); go_simp; with_reducible rfl); try simp only [Act.put, sA, sZ, sS])
 apply lext_turn; exact rfl; exact rfl; exact rfl; intro K hK; go_simp; go_at_call 86; refine content_q _ ?_; intro w5 hg5; have G5 := Lh (G23.out.tr hg5); have F7 := Lh (grow_blk hg5 F7.out); refine hK.out _ _ G5.out ?_; clear hK hg5 G23
 try simp only [Act.put, sA, sZ, sS]
 iterate 5 (apply lext_take; exact rfl; exact rfl; (intro W hW; (try clear hW); go_simp; with_reducible rfl); try simp only [Act.put, sA, sZ, sS])
 have z0 : w5.cell? ⟨b7, 0, none⟩ = some (.slice none 0 0) := cell_of_row w5 b7 0 k0 _ _ F7.out; have fz := frozen_of_row w5 b7 0 k0 _ F7.out; apply lext_turn; exact rfl; exact rfl; exact rfl; intro K hK; go_simp; skip
 refine hK.out _ _ (G5.out.set (p := ⟨b7, 0, none⟩) LB.out.1 _) ?_; clear hK z0 fz; have F7 := Lh (blk_setA F7.out 0 (.slice none 0 0)); have G5 := Lh (G5.out.set (p := ⟨b7, 0, none⟩) LB.out.1 (.slice none 0 0)); generalize w5.setCell ⟨b7, 0, none⟩ (.slice none 0 0) = w6 at *
 try simp only [Act.put, sA, sZ, sS]
 iterate 1 (apply lext_take; exact rfl; exact rfl; (intro W hW; (try clear hW); go_simp; with_reducible rfl); try simp only [Act.put, sA, sZ, sS])
 have z1 : w6.cell? ⟨b7, 1, none⟩ = some (.string ⟨#[]⟩) := cell_of_row w6 b7 1 _ _ _ F7.out; have fz := frozen_of_row w6 b7 1 _ _ F7.out; apply lext_turn; exact rfl; exact rfl; exact rfl; intro K hK; go_simp; skip
 refine hK.out _ _ (G5.out.set (p := ⟨b7, 1, none⟩) LB.out.1 _) ?_; clear hK z1 fz; have F7 := Lh (blk_setA F7.out 1 (.string ⟨#[]⟩)); have G5 := Lh (G5.out.set (p := ⟨b7, 1, none⟩) LB.out.1 (.string ⟨#[]⟩)); generalize w6.setCell ⟨b7, 1, none⟩ (.string ⟨#[]⟩) = w7 at *
 try simp only [Act.put, sA, sZ, sS]
 refine lext_nil ?_; simp only [List.drop_succ_cons, List.drop_zero]; have z2 : w7.cell? ⟨b7, 2, none⟩ = some (.int .i64 0) := cell_of_row w7 b7 2 _ _ _ F7.out; have fz := frozen_of_row w7 b7 2 _ _ F7.out; go_upto_region 6 with fail
 clear z2 fz; have F7 : Hid ((w7.setCell ⟨b7, 2, none⟩ (.int .i64 404)).heap[b7]? = some (.cells c4 135 (0, 0))) := blk_setA F7.out 2 (.int .i64 404); have G5 := Lh (G5.out.set (p := ⟨b7, 2, none⟩) LB.out.1 (.int .i64 404)); generalize w7.setCell ⟨b7, 2, none⟩ (.int .i64 404) = w8 at *; have B8 := Lh (B2.out.tr (But.of G5.out)); have F4 := Lh (grow_blk G5.out F4.out); have S8 := Lh (S2.out.tr G5.out); have C8 : Hid (w8.cell? ⟨c, 0, none⟩ = some (.int .i64 0)) := (G5.out.cell (p := ⟨c, 0, none⟩) (World.block_lt_of_cell? _ _ C2.out)).trans C2.out; clear B2 S2 C2 G5
 refine wp_region_lexT (Grow w8.drew) ((Grow.refl _)) 5 [0, 1, 2, 3, 4] (by kernel_rfl) (by kernel_rfl) (by intro c a d v w h; cases d <;> exact h) ?_; have GD : Grow w8 w8.drew := (Grow.refl w8).dr; have B8 := Lh (B8.out.tr (But.of GD)); have F4 := Lh (grow_blk GD F4.out); have F7 := Lh (grow_blk GD F7.out); have S8 := Lh (S8.out.tr GD); have C8 : Hid (w8.drew.cell? ⟨c, 0, none⟩ = some (.int .i64 0)) := C8.out; clear GD; generalize w8.drew = w9 at *
 iterate 5 (apply lext_take; exact rfl; exact rfl; (intro W hW; have y0 := cell_of_row W b7 0 c4 _ _ (grow_blk hW F7.out); have y1 := cell_of_row W b7 1 c4 _ _ (grow_blk hW F7.out); have y2 := cell_of_row W b7 2 c4 _ _ (grow_blk hW F7.out); unfold c4 at y0 y1 y2; simp only [List.getElem?_toArray, List.getElem?_cons_zero, List.getElem?_cons_succ] at y0 y1 y2; (try clear hW); go_simp; with_reducible rfl); try simp only [Act.put, sA, sZ, sS])
 refine lext_nil ?_; simp only [List.drop_succ_cons, List.drop_zero]; go_wp2_with fail
 go_at_call 88; refine kput_q w0 w9 s c S8.out C8.out NS.out.2.2.1 HT.out ?_; intro w10 hb10; have B10 := Lh (B8.out.tr hb10); have F4 := Lh (hb10.blk F4.out (by have := NS.out; omega) (by have := NS.out; omega)); have F7 := Lh (hb10.blk F7.out (by have := NS.out; have := LB.out; omega) (by have := NS.out; have := LB.out; omega)); clear hb10 B8 S8 C8
 go_wp2_with (first
  | (refine wpList_load_row rfl 135 _ rfl b7 rfl 135 _ _ _ F7.out Tryz.underlying135 rfl (by kernel_rfl) ?_)
  | (refine wpList_store_row rfl 135 _ _ rfl w.heap.size c4 rfl rfl 135 _ F4.out (by kernel_rfl) rfl (by simp [c4, Value.oneCell']) ?_))
 refine bodyPost_ret (v := .agg c4) ?_ rfl (HR.out _ (B10.out.row (Nat.le_refl _) _)); exact results_cell_row rfl _ _ w.heap.size _ _ _ _ rfl (setRow_heap _ _ _ _ _ _ F4.out) Tryz.underlying135 rfl (by kernel_rfl)
end Go.Proofs.YteeeeddeacepmaaGreatDoor
