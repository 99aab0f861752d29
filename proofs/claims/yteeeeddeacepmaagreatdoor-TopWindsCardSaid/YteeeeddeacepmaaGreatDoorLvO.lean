import Derived.Test.YteeeeddeacepmaaGreatDoorLvMN
import Derived.Test.YteeeeddeacepmaaGreatDoorLvAP
namespace Go.Proofs.YteeeeddeacepmaaGreatDoor
set_option maxRecDepth 100000
open Go.RowKit B
open Go.Maps (Keyed)
set_option maxHeartbeats 4000000 in
theorem respond_nil (w : World) {R : Ending -> World -> Prop} (hR : ∀ A c w', Grow w w' -> R (.returned (.agg #[.int .i64 400, .slice A 1 c, .slice none 0 0])) w') :
  Calls Tryz.prog 56 #[.slice none 0 0, .slice none 0 0, .slice none 0 0] w R := by
 have HR := Lh hR; clear hR
 obtain ⟨wa, hwa⟩ : ∃ wa, wa = w.alloc (.cells az 72) := ⟨_, rfl⟩
 have GA : Hid (Grow w wa) := by subst hwa; exact (Grow.refl _).al _
 have BR : Hid (wa.heap[w.heap.size]? = some (.cells az 72 (0, 0))) := by subst hwa; exact heap_alloc_new w _
 go_enter Tryz.func56, Tryz.ntmps56
 go_upto_region 1 with fail
 rw [show w.alloc (.cells #[.int .i64 0, .slice none 0 0, .slice none 0 0] 72) = wa from hwa.symm]; clear hwa; go_wp2_with fail
 go_at_call 55; refine parse_nil _ ?_; intro w1 hg1; have F1 : Hid ((w1.alloc (.cells rz 130)).heap[w1.heap.size]? = some (.cells rz 130 (0, 0))) := heap_alloc_new w1 _; have G1 : Hid (Grow wa ((w1.alloc (.cells rz 130)).setRow w1.heap.size rz)) := hg1.tr (lv_row ((Grow.refl _).al _) (Nat.le_refl _) _); have F2 : Hid (((w1.alloc (.cells rz 130)).setRow w1.heap.size rz).heap[w1.heap.size]? = some (.cells rz 130 (0, 0))) := setRow_heap _ _ _ _ _ _ F1.out; have BR1 := Lh (grow_blk G1.out BR.out); have G2 := Lh (GA.out.tr G1.out); clear hg1 BR GA G1
 go_wp2_with (first
  | (refine wpList_store_row rfl 130 _ _ rfl w1.heap.size rz rfl rfl 130 _ F1.out (by kernel_rfl) rfl (by simp [rz, Value.oneCell']) ?_)
  | (refine wpList_load_row rfl 130 _ rfl w1.heap.size rfl 130 _ _ _ F2.out Tryz.underlying130 rfl (by kernel_rfl) ?_))
 go_at_call 58; refine answer_q 400 (.inl rfl) ⟨#[]⟩ ⟨#[]⟩ ⟨#[]⟩ false false _ ?_; intro A c w3 hg3; have G3 := Lh (G2.out.tr hg3); have BR3 := Lh (grow_blk hg3 BR1.out); clear hg3 G2 BR1 F1 F2; go_wp2_with (refine wpList_store_row rfl 72 _ _ rfl w.heap.size #[.int .i64 400, .slice A 1 c, .slice none 0 0] rfl rfl 72 _ BR3.out (by kernel_rfl) rfl (by simp [Value.oneCell']) ?_)
 refine bodyPost_ret (v := .agg #[.int .i64 400, .slice A 1 c, .slice none 0 0]) ?_ rfl (HR.out A c _ (lv_row G3.out (Nat.le_refl _) _)); exact results_cell_row rfl _ _ w.heap.size _ _ _ _ rfl (setRow_heap _ _ _ _ _ _ BR3.out) Tryz.underlying72 rfl (by kernel_rfl)
set_option maxHeartbeats 4000000 in
theorem do_nil (w : World) (s : Nat) {R : Ending -> World -> Prop} (hR : ∀ A k w', Grow w w' -> R (.returned (.agg #[.int .i64 400, .slice A 1 k, .slice none 0 0])) w') :
  Calls Tryz.prog 38 #[.pointer (some ⟨s, 0, none⟩), .slice none 0 0] w R := by
 have HR := Lh hR; clear hR
 obtain ⟨wa, hwa⟩ : ∃ wa, wa = w.alloc (.cells az 72) := ⟨_, rfl⟩
 have GA : Hid (Grow w wa) := by subst hwa; exact (Grow.refl _).al _
 have BR : Hid (wa.heap[w.heap.size]? = some (.cells az 72 (0, 0))) := by subst hwa; exact heap_alloc_new w _
 go_enter Tryz.func38, Tryz.ntmps38
 go_upto_region 1 with fail
 rw [show w.alloc (.cells #[.int .i64 0, .slice none 0 0, .slice none 0 0] 72) = wa from hwa.symm]; clear hwa; go_wp2_with fail
 go_at_call 55; refine parse_nil _ ?_; intro w1 hg1; have F1 : Hid ((w1.alloc (.cells rz 130)).heap[w1.heap.size]? = some (.cells rz 130 (0, 0))) := heap_alloc_new w1 _; have G1 : Hid (Grow wa ((w1.alloc (.cells rz 130)).setRow w1.heap.size rz)) := hg1.tr (lv_row ((Grow.refl _).al _) (Nat.le_refl _) _); have BR1 := Lh (grow_blk G1.out BR.out); have G2 := Lh (GA.out.tr G1.out); clear hg1 BR GA G1; go_wp2_with (refine wpList_store_row rfl 130 _ _ rfl w1.heap.size rz rfl rfl 130 _ F1.out (by kernel_rfl) rfl (by simp [rz, Value.oneCell']) ?_)
 go_at_call 56; refine respond_nil _ ?_; intro A k w3 hg3; have G3 := Lh (G2.out.tr hg3); have BR3 := Lh (grow_blk hg3 BR1.out); clear hg3 G2 BR1 F1; go_wp2_with (refine wpList_store_row rfl 72 _ _ rfl w.heap.size #[.int .i64 400, .slice A 1 k, .slice none 0 0] rfl rfl 72 _ BR3.out (by kernel_rfl) rfl (by simp [Value.oneCell']) ?_)
 refine bodyPost_ret (v := .agg #[.int .i64 400, .slice A 1 k, .slice none 0 0]) ?_ rfl (HR.out A k _ (lv_row G3.out (Nat.le_refl _) _)); exact results_cell_row rfl _ _ w.heap.size _ _ _ _ rfl (setRow_heap _ _ _ _ _ _ BR3.out) Tryz.underlying72 rfl (by kernel_rfl)
def But (s c : Nat) (w w' : World) : Prop := w'.os = w.os /\ w'.tape = w.tape /\ w'.output = w.output /\ w.heap.size <= w'.heap.size /\ ∀ k, k < w.heap.size -> k ≠ s -> k ≠ c -> w'.heap[k]? = w.heap[k]?
theorem But.of {s c : Nat} {w w' : World} (h : Grow w w') : But s c w w' := ⟨h.os, h.tape, h.output, h.size, fun k hk _ _ => h.block k hk⟩
theorem But.tr {s c : Nat} {a b d : World} (h : But s c a b) (k : But s c b d) : But s c a d :=
 ⟨k.1.trans h.1, k.2.1.trans h.2.1, k.2.2.1.trans h.2.2.1, Nat.le_trans h.2.2.2.1 k.2.2.2.1, fun j hj h1 h2 => (k.2.2.2.2 j (Nat.lt_of_lt_of_le hj h.2.2.2.1) h1 h2).trans (h.2.2.2.2 j hj h1 h2)⟩
theorem But.set (s c : Nat) (w : World) {b : Nat} (hb : b = s ∨ b = c) (j : Nat) (v : Value) : But s c w (w.setCell ⟨b, j, none⟩ v) :=
 ⟨rfl, rfl, rfl, by rw [size_setCell]; exact Nat.le_refl _, fun k _ h1 h2 => lv_oth w b j v (by rcases hb with rfl | rfl <;> assumption)⟩
theorem But.row {s c b : Nat} {w W : World} (h : But s c w W) (hb : w.heap.size <= b) (cs : Array Value) : But s c w (W.setRow b cs) :=
 ⟨h.1, h.2.1, h.2.2.1, by rw [setRow_size]; exact h.2.2.2.1, fun k hk h1 h2 => (setRow_other _ _ _ _ (by omega)).trans (h.2.2.2.2 k hk h1 h2)⟩
theorem But.grow {s c : Nat} {w0 w w' : World} (h : But s c w w') (hg : Grow w0 w) (hs : w0.heap.size <= s) (hc : w0.heap.size <= c) : Grow w0 w' :=
 ⟨h.1.trans hg.os, h.2.1.trans hg.tape, h.2.2.1.trans hg.output, Nat.le_trans hg.size h.2.2.2.1, fun k hk => (h.2.2.2.2 k (Nat.lt_of_lt_of_le hk hg.size) (by omega) (by omega)).trans (hg.block k hk)⟩
set_option maxHeartbeats 4000000 in
theorem get_miss (w0 w : World) (s c m r : Nat) (hS : Srv w0 s c m r w) {R : Ending -> World -> Prop} (hR : R (.returned (.tuple #[.slice none 0 0, .bool false])) (w.setCell ⟨c, 6, none⟩ (.int .i64 1))) :
  Calls Tryz.prog 132 #[.pointer (some ⟨c, 0, none⟩), .string ⟨#[47, 97, 46, 106, 115, 111, 110]⟩] w R := by
 have HR := Lh hR; have M0 := Lh hS.mp; have c2 := hS.ca.cell 2; have c6 := hS.ca.cell 6; have f6 := hS.ca.free 6; simp only [List.getElem?_toArray, List.getElem?_cons_zero, List.getElem?_cons_succ] at c2 c6; have zE : ∀ W, (zeroValue 166).run Tryz.prog W = .ok (.pointer none) W := Tryz.zeroValue166; clear hR hS; go_enter Tryz.func132, Tryz.ntmps132
 go_wp2_with (at_lookup; refine wpList_lookok _ rfl _ _ _ rfl M0.out rfl keyS Tryz.underlying169 (zE _) (key := .string ⟨#[47, 97, 46, 106, 115, 111, 110]⟩) rfl (strKey (by decide)) (v := .pointer none) (ok := false) rfl rfl ?_)
 exact HR.out
set_option maxHeartbeats 4000000 in
theorem kget_miss (w0 w : World) (s c m r : Nat) (hS : Srv w0 s c m r w) {R : Ending -> World -> Prop} (hR : ∀ w', But s c w w' -> w'.heap[s]? = w.heap[s]? -> w'.cell? ⟨c, 0, none⟩ = some (.int .i64 0) -> R (.returned (.tuple #[.agg #[.slice none 0 0, .string ⟨#[]⟩, .int .i64 0], .bool false])) w') :
  Calls Tryz.prog 87 #[.pointer (some ⟨s, 0, none⟩), .string ⟨#[47, 97, 46, 106, 115, 111, 110]⟩] w R := by
 have HR := Lh hR
 obtain ⟨wa, hwa⟩ : ∃ wa, wa = w.alloc (.cells #[.slice none 0 0, .string ⟨#[]⟩, .int .i64 0] 135) := ⟨_, rfl⟩
 have GA : Hid (Grow w wa) := by subst hwa; exact (Grow.refl _).al _
 have BR : Hid (wa.heap[w.heap.size]? = some (.cells #[.slice none 0 0, .string ⟨#[]⟩, .int .i64 0] 135 (0, 0))) := by subst hwa; exact heap_alloc_new w _
 have NS : Hid (c < w.heap.size /\ s < w.heap.size /\ c < s) := ⟨hS.ca.lt, hS.sv.lt, hS.ne⟩
 have SV := Lh (hS.tr GA.out); have c0 := SV.out.sv.cell 0; simp only [List.getElem?_toArray, List.getElem?_cons_zero] at c0; clear hR hS; go_enter Tryz.func87, Tryz.ntmps87
 go_upto_region 1 with fail
 rw [show w.alloc (.cells #[.slice none 0 0, .string ⟨#[]⟩, .int .i64 0] 135) = wa from hwa.symm]; clear hwa; go_wp2_with fail
 go_at_call 132; refine get_miss w0 _ s c m r SV.out ?_; have BR1 := Lh ((lv_oth wa c 6 (.int .i64 1) (show w.heap.size ≠ c by have := NS.out.1; omega)).trans BR.out); have B1 : Hid (But s c w (wa.setCell ⟨c, 6, none⟩ (.int .i64 1))) := (But.of GA.out).tr (But.set s c wa (.inr rfl) 6 _); have E1 : Hid ((wa.setCell ⟨c, 6, none⟩ (.int .i64 1)).heap[s]? = w.heap[s]?) := (lv_oth wa c 6 _ (show s ≠ c by have := NS.out.2.2; omega)).trans (GA.out.block s NS.out.2.1)
 have K0 : Hid ((wa.setCell ⟨c, 6, none⟩ (.int .i64 1)).cell? ⟨c, 0, none⟩ = some (.int .i64 0)) := (SV.out.ca.set 6 (.int .i64 1)).cell 0; clear SV BR GA c0; go_wp2_with (refine wpList_store_row rfl 135 _ _ rfl w.heap.size #[.slice none 0 0, .string ⟨#[]⟩, .int .i64 0] rfl rfl 135 _ BR1.out (by kernel_rfl) rfl (by simp [Value.oneCell']) ?_)
 refine bodyPost_ret (v := .tuple #[.agg #[.slice none 0 0, .string ⟨#[]⟩, .int .i64 0], .bool false]) ?_ rfl (HR.out _ (B1.out.row (Nat.le_refl _) _) ?_ ?_)
 ·exact results_rs rfl _ _ w.heap.size _ _ _ _ rfl (setRow_heap _ _ _ _ _ _ BR1.out) rfl rfl Tryz.underlying135 (by kernel_rfl)
 ·exact (setRow_other _ _ _ _ (by have := NS.out.2.1; omega)).trans E1.out
 ·exact (World.cell?_of_block (setRow_other _ _ _ _ (show c ≠ w.heap.size by have := NS.out.1; omega))).trans K0.out
end Go.Proofs.YteeeeddeacepmaaGreatDoor
