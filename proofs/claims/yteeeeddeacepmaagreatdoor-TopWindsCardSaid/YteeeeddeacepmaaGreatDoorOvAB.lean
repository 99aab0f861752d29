import Derived.Laws.Tables
import Derived.Test.YteeeeddeacepmaaGreatDoorPRightA
namespace Go.Proofs.YteeeeddeacepmaaGreatDoor
set_option maxRecDepth 100000
open Go.RowKit
theorem Grow.row2 {w W : World} (h : Grow w W) {b : Nat} (hb : w.heap.size <= b) (cs : Array Value) : Grow w (W.setRow b cs) :=
 ⟨h.os, h.tape, h.output, by rw [setRow_size]; exact h.size, fun k hk => by rw [setRow_other _ _ _ _ (by omega)]; exact h.block k hk⟩
theorem wrap_pw {n : Int} (h0 : 0 <= n) (h : n <= 30) : wrap64 ((2 : Int) ^ n.toNat) = pw n := by
 have h1 := pw_pos n; have h2 := pw_le h; have _ := h0; unfold pw at *; unfold wrap64; omega
theorem pw_succ {k : Nat} : pw ((k : Int) + 1) = 2 * pw k := by
 unfold pw; rw [show ((k : Int) + 1).toNat = k + 1 by omega, show ((k : Int)).toNat = k by omega, Int.pow_succ]; omega
set_option maxHeartbeats 400000 in
theorem power_any (n : Int) (w : World) (h0 : 0 <= n) (h : n <= 30) {R : Ending -> World -> Prop} (hR : R (.returned (.int .i64 (pw n))) w) :
  Calls Tryz.prog 21 #[.int .i64 n] w R := by
 have HR := Lh hR; clear hR
 obtain ⟨m, rfl⟩ : ∃ m : Nat, n = m := ⟨n.toNat, by omega⟩
 go_enter Tryz.func21, Tryz.ntmps21
 go_wp2
 go_loopw [4, 3] (fun i p wr => ∃ k : Nat, k <= m /\ i = .int .i64 k /\ p = .int .i64 (pw k) /\ wr = w) (fun i _ _ => m - (intOf i).toNat)
 case atStart => exact ⟨0, Nat.zero_le _, rfl, rfl, rfl⟩
 case round =>
  obtain ⟨k, hk, rfl, rfl, rfl⟩ := hrel
  by_cases hlt : k < m
  ·have hp := pw_le (n := (k : Int)) (by omega)
   have hq := pw_pos (k : Int); have hw : wrap64 (2 * pw k) = 2 * pw k := by unfold wrap64; omega
   have PS : Hid (2 * pw (k : Int) = pw ((k + 1 : Nat) : Int)) := by show _ = _; rw [show ((k + 1 : Nat) : Int) = (k : Int) + 1 by omega, pw_succ]
   generalize pw (k : Int) = P at *; go_wp2; go_roundw
   case rel => exact ⟨k + 1, by omega, by go_num, by rw [PS.out], by first | rfl | trivial⟩
   case measure => simp [intOf]; omega
  ·obtain rfl : k = m := by omega
   go_wp2; exact HR.out
end Go.Proofs.YteeeeddeacepmaaGreatDoor
namespace Go.Proofs.YteeeeddeacepmaaGreatDoor
set_option maxRecDepth 100000
open Go.RowKit B
end Go.Proofs.YteeeeddeacepmaaGreatDoor
namespace Go.Proofs.YteeeeddeacepmaaGreatDoor
set_option maxRecDepth 100000
open Go.RowKit B
set_option maxHeartbeats 4000000 in
theorem rscale28_any (z : Zm) (e : Int) (p : Pt) (w : World) (hz : zright z e = true) (hx : -1048576 <= p.x /\ p.x <= 1048576) (hy : -1048576 <= p.y /\ p.y <= 1048576) {R : Ending -> World -> Prop} (hR : ∀ w', Grow w w' -> R (.returned (.agg (scl z e p).cells.toArray)) w') :
  Calls Tryz.prog 7 #[.agg p.cells.toArray, .agg z.cells.toArray, .int .i64 e] w R := by
 have HR := Lh hR; clear hR; obtain ⟨h1, h2, h3, h4, h5, h6, h7, h8, h9, h10⟩ := zright_iff hz; have a := scl_room hz hx ⟨h7, h8⟩; have b := scl_room hz hy ⟨h9, h10⟩; obtain ⟨up, x, y, bb⟩ := z; obtain ⟨px, py⟩ := p; unfold Zm.cells Pt.cells; unfold scl Pt.cells at HR; dsimp only at *; have PW := Lh fun W (R : Ending -> World -> Prop) hR => power_any up W h3 h4 (R := R) hR
 generalize pw up = P at *; have m1 : IntKind.i64.wrap (px * P) = px * P := IntWalk.i64_in _ (by omega); have m2 : IntKind.i64.wrap (py * P) = py * P := IntWalk.i64_in _ (by omega); have m3 : IntKind.i64.wrap (x * e) = x * e := IntWalk.i64_in _ (by omega); have m4 : IntKind.i64.wrap (y * e) = y * e := IntWalk.i64_in _ (by omega); have m5 : IntKind.i64.wrap (px * P - x * e) = px * P - x * e := IntWalk.i64_in _ (by omega); have m6 : IntKind.i64.wrap (py * P - y * e) = py * P - y * e := IntWalk.i64_in _ (by omega)
 obtain ⟨wa, hwa⟩ : ∃ wa, wa = ((w.alloc (.cells #[.int .i64 px, .int .i64 py] 36)).alloc (.cells #[.int .i64 up, .int .i64 x, .int .i64 y, .int .i64 bb] 29)).alloc (.cells #[.int .i64 0, .int .i64 0] 36) := ⟨_, rfl⟩
 have GA : Hid (Grow w wa) := by subst hwa; exact (((Grow.refl _).al _).al _).al _
 have BP : Hid (BoxH w w.heap.size #[.int .i64 px, .int .i64 py] 36 wa) := by
  rw [hwa]; exact ((BoxH.laid #[.int .i64 px, .int .i64 py] 36 (Grow.refl w)).tr ((Grow.refl _).al _)).tr ((Grow.refl _).al _)
 have BZ : Hid (BoxH w (w.heap.size + 1) #[.int .i64 up, .int .i64 x, .int .i64 y, .int .i64 bb] 29 wa) := by
  have := (BoxH.laid (w := w.alloc (.cells #[.int .i64 px, .int .i64 py] 36)) #[.int .i64 up, .int .i64 x, .int .i64 y, .int .i64 bb] 29 ((Grow.refl w).al _)).tr ((Grow.refl _).al (.cells #[.int .i64 0, .int .i64 0] 36)); rw [World.size_alloc] at this; rw [hwa]; exact this
 have F0 : Hid (wa.heap[w.heap.size + 1 + 1]? = some (.cells #[.int .i64 0, .int .i64 0] 36 (0, 0))) := by
  have := (BoxH.laid (w := (w.alloc (.cells #[.int .i64 px, .int .i64 py] 36)).alloc (.cells #[.int .i64 up, .int .i64 x, .int .i64 y, .int .i64 bb] 29)) #[.int .i64 0, .int .i64 0] 36 (((Grow.refl w).al _).al _)).2.2; rw [World.size_alloc, World.size_alloc] at this; rw [hwa]; exact this
 have CE : Hid (∀ W, Grow wa W -> (W.cell? ⟨w.heap.size, 0, none⟩ = some (.int .i64 px) /\ W.cell? ⟨w.heap.size, 1, none⟩ = some (.int .i64 py)) /\ W.cell? ⟨w.heap.size + 1, 0, none⟩ = some (.int .i64 up) /\ W.cell? ⟨w.heap.size + 1, 1, none⟩ = some (.int .i64 x) /\ W.cell? ⟨w.heap.size + 1, 2, none⟩ = some (.int .i64 y)) := fun W hW =>
  ⟨⟨(BP.out.tr hW).cell 0, (BP.out.tr hW).cell 1⟩, (BZ.out.tr hW).cell 0, (BZ.out.tr hW).cell 1, (BZ.out.tr hW).cell 2⟩
 clear BP BZ hx hy hz a b h1 h2 h3 h4 h5 h6 h7 h8 h9 h10; go_enter Tryz.func7, Tryz.ntmps7
 go_upto_region 1 with fail
 rw [<- hwa]; clear hwa; refine wp_region_lexT (Grow wa.drew) ((Grow.refl _)) 22 [0, 1, 2, 3, 6, 7, 8, 9, 11, 12, 13, 14, 17, 18, 19, 20, 4, 5, 10, 15, 16, 21] (by kernel_rfl) (by kernel_rfl) (by intro c a d v w h; cases d <;> exact h) ?_; have GD := Lh ((Grow.refl wa).dr); have GA := Lh (GA.out.tr GD.out); have F0 := Lh (grow_blk GD.out F0.out); generalize wa.drew = wb at *
 iterate 16 (apply lext_take; exact rfl; exact rfl; (intro W hW; obtain ⟨⟨x0, x1⟩, z0, z1, z2⟩ := CE.out W (GD.out.tr hW); (try clear hW); go_simp; with_reducible rfl); try simp only [Act.put, sA, sZ, sS])
 apply lext_turn; exact rfl; exact rfl; exact rfl; intro K hK; go_simp; go_at_call 21; refine PW.out _ _ ?_; refine hK.out _ _ (Grow.refl _) ?_; clear hK
 try simp only [Act.put, sA, sZ, sS]
 iterate 2 (apply lext_take; exact rfl; exact rfl; (intro W hW; (try clear hW); go_simp; with_reducible rfl); try simp only [Act.put, sA, sZ, sS])
 apply lext_turn; exact rfl; exact rfl; exact rfl; intro K hK; go_simp; go_at_call 21; refine PW.out _ _ ?_; refine hK.out _ _ (Grow.refl _) ?_; clear hK
 try simp only [Act.put, sA, sZ, sS]
 iterate 2 (apply lext_take; exact rfl; exact rfl; (intro W hW; (try clear hW); go_simp; with_reducible rfl); try simp only [Act.put, sA, sZ, sS])
 refine lext_nil ?_; simp only [List.drop_succ_cons, List.drop_zero]; go_wp2_with (refine wpList_store_row rfl 36 _ _ rfl (w.heap.size + 1 + 1) #[.int .i64 (px * P - x * e), .int .i64 (py * P - y * e)] rfl rfl 36 _ F0.out (by kernel_rfl) rfl (by simp [Value.oneCell']) ?_)
 refine bodyPost_ret (v := .agg #[.int .i64 (px * P - x * e), .int .i64 (py * P - y * e)]) ?_ rfl (HR.out _ (GA.out.row2 (show w.heap.size <= w.heap.size + 1 + 1 by omega) _)); exact results_cell_row rfl _ _ (w.heap.size + 1 + 1) _ _ _ _ rfl (setRow_heap _ _ _ _ _ _ F0.out) Tryz.underlying36 rfl (by kernel_rfl)
end Go.Proofs.YteeeeddeacepmaaGreatDoor
