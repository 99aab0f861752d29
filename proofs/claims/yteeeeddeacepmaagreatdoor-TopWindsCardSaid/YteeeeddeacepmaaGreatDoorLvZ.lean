import Derived.Test.YteeeeddeacepmaaGreatDoorLvY
import Derived.Test.YteeeeddeacepmaaGreatDoorLvJC
namespace Go.Proofs.YteeeeddeacepmaaGreatDoor
set_option maxRecDepth 100000
open Go.RowKit B
set_option maxHeartbeats 8000000 in
theorem do_q (w0 w : World) (s c m r q : Nat) (hS : Srv w0 s c m r w) (hT : TenIs w0) (hB : RowU q rqT w) (hm : MaxIs w) {R : Ending -> World -> Prop} (hR : ∀ A k w', But s c w w' -> R (.returned (.agg #[.int .i64 404, .slice A 1 k, .slice none 0 0])) w') :
  Calls Tryz.prog 38 #[.pointer (some ⟨s, 0, none⟩), .slice (some ⟨q, 0, none⟩) 33 33] w R := by
 have HR := Lh hR
 have NS : Hid (c < w.heap.size /\ s < w.heap.size) := ⟨hS.ca.lt, hS.sv.lt⟩
 obtain ⟨wa, hwa⟩ : ∃ wa, wa = w.alloc (.cells az 72) := ⟨_, rfl⟩
 have GA : Hid (Grow w wa) := by subst hwa; exact (Grow.refl _).al _
 have F4 : Hid (wa.heap[w.heap.size]? = some (.cells az 72 (0, 0))) := by subst hwa; exact heap_alloc_new w _
 have SV := Lh (hS.tr GA.out); have HT := Lh hT; have HB := Lh (hB.tr GA.out); have HM := Lh (hm.gr GA.out); clear hR hS hT hB hm; go_enter Tryz.func38, Tryz.ntmps38
 go_upto_region 1 with fail
 rw [show w.alloc (.cells #[.int .i64 0, .slice none 0 0, .slice none 0 0] 72) = wa from hwa.symm]; clear hwa; go_wp2_with fail
 go_at_call 55; refine parse_q _ q HB.out HM.out ?_; intro w1 hg1; have F1 : Hid ((w1.alloc (.cells rz 130)).heap[w1.heap.size]? = some (.cells rz 130 (0, 0))) := heap_alloc_new w1 _
 obtain ⟨w2, hw2⟩ : ∃ w2, w2 = (w1.alloc (.cells rz 130)).setRow w1.heap.size rq := ⟨_, rfl⟩
 have G12 : Hid (Grow w1 w2) := by rw [hw2]; exact lv_row ((Grow.refl _).al _) (Nat.le_refl _) _
 have F5 : Hid (w2.heap[w1.heap.size]? = some (.cells rq 130 (0, 0))) := by rw [hw2]; exact setRow_heap _ _ _ _ _ _ F1.out
 have G2 := Lh (hg1.tr G12.out); have F4 := Lh (grow_blk G2.out F4.out); have S2 := Lh (SV.out.tr G2.out); have B2 : Hid (But s c w w2) := But.of (GA.out.tr G2.out); have y0 : w2.cell? ⟨w1.heap.size, 0, none⟩ = some (.string ⟨#[71, 69, 84]⟩) := cell_of_row _ _ 0 rq _ _ F5.out; have y1 : w2.cell? ⟨w1.heap.size, 1, none⟩ = some (.string ⟨#[47, 97, 46, 106, 115, 111, 110]⟩) := cell_of_row _ _ 1 rq _ _ F5.out; have L1 : Hid (w.heap.size <= w1.heap.size) := Nat.le_trans GA.out.size hg1.size; clear hg1 G12 GA SV HB HM G2
 go_upto_region 4 with (refine wpList_store_row rfl 130 _ _ rfl w1.heap.size rq rfl rfl 130 _ F1.out (by kernel_rfl) rfl (by simp [rq, Value.oneCell']) ?_)
 rw [show (w1.alloc (.cells #[.string ⟨#[]⟩, .string ⟨#[]⟩, .bool false, .bool false, .slice none 0 0] 130)).setRow w1.heap.size rq = w2 from hw2.symm]; clear hw2 F1; go_wp2_with fail
 go_at_call 57; refine content_s w0 w2 s c m r S2.out HT.out ?_; intro w3 hb3; have B3 := Lh (B2.out.tr hb3); have F4 := Lh (hb3.blk F4.out (by have := NS.out; omega) (by have := NS.out; omega)); have F5 := Lh (hb3.blk F5.out (by have := NS.out; have := L1.out; omega) (by have := NS.out; have := L1.out; omega)); have F6 : Hid ((w3.alloc (.cells k0 135)).heap[w3.heap.size]? = some (.cells k0 135 (0, 0))) := heap_alloc_new w3 _
 obtain ⟨w4, hw4⟩ : ∃ w4, w4 = (w3.alloc (.cells k0 135)).setRow w3.heap.size c4 := ⟨_, rfl⟩
 have G34 : Hid (Grow w3 w4) := by rw [hw4]; exact lv_row ((Grow.refl _).al _) (Nat.le_refl _) _
 have F7 : Hid (w4.heap[w3.heap.size]? = some (.cells c4 135 (0, 0))) := by rw [hw4]; exact setRow_heap _ _ _ _ _ _ F6.out
 have z0 : w4.cell? ⟨w3.heap.size, 0, none⟩ = some (.slice none 0 0) := cell_of_row _ _ 0 c4 _ _ F7.out; have z1 : w4.cell? ⟨w3.heap.size, 1, none⟩ = some (.string ⟨#[]⟩) := cell_of_row _ _ 1 c4 _ _ F7.out; have z2 : w4.cell? ⟨w3.heap.size, 2, none⟩ = some (.int .i64 404) := cell_of_row _ _ 2 c4 _ _ F7.out; have F4 := Lh (grow_blk G34.out F4.out); have F5 := Lh (grow_blk G34.out F5.out); have B4 := Lh (B3.out.tr (But.of G34.out)); clear hb3 y0 y1 B2 S2 G34 B3
 go_upto_region 7 with (refine wpList_store_row rfl 135 _ _ rfl w3.heap.size c4 rfl rfl 135 _ F6.out (by kernel_rfl) rfl (by simp [c4, Value.oneCell']) ?_)
 rw [show (w3.alloc (.cells #[.slice none 0 0, .string ⟨#[]⟩, .int .i64 0] 135)).setRow w3.heap.size c4 = w4 from hw4.symm]; clear hw4 F6; go_wp2_with (refine wpList_load_row rfl 130 _ rfl w1.heap.size rfl 130 _ _ _ F5.out Tryz.underlying130 rfl (by kernel_rfl) ?_)
 go_at_call 58; refine answer_q 404 (.inr rfl) ⟨#[71, 69, 84]⟩ ⟨#[47, 97, 46, 106, 115, 111, 110]⟩ ⟨#[]⟩ false false _ ?_; intro A k w5 hg5; have B5 := Lh (B4.out.tr (But.of hg5)); have F4 := Lh (grow_blk hg5 F4.out); clear hg5 B4; go_wp2_with (refine wpList_store_row rfl 72 _ _ rfl w.heap.size #[.int .i64 404, .slice A 1 k, .slice none 0 0] rfl rfl 72 _ F4.out (by kernel_rfl) rfl (by simp [Value.oneCell']) ?_)
 refine bodyPost_ret (v := .agg #[.int .i64 404, .slice A 1 k, .slice none 0 0]) ?_ rfl (HR.out A k _ (B5.out.row (Nat.le_refl _) _)); exact results_cell_row rfl _ _ w.heap.size _ _ _ _ rfl (setRow_heap _ _ _ _ _ _ F4.out) Tryz.underlying72 rfl (by kernel_rfl)
end Go.Proofs.YteeeeddeacepmaaGreatDoor
