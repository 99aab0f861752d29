import Derived.Test.YteeeeddeacepmaaGreatDoorLvZ
namespace Go.Proofs.YteeeeddeacepmaaGreatDoor
set_option maxRecDepth 100000
open Go.RowKit B
theorem But.own {s c base size n : Nat} {w w' : World} {e : TypeId} {v : Value} {xs : List Value} (h : But s c w w') (ho : w.ownsRow base e size v n xs) (hs : s < base) (hc : c < base) : w'.ownsRow base e size v n xs := by
 refine ⟨ho.1, ?_⟩
 rcases ho.2 with h1 | ⟨g, cap, cur, h1, h2, h3, h4⟩
 ·exact .inl h1
 ·exact .inr ⟨g, cap, cur, h1, h2, h.blk h3 (by omega) (by omega), h4⟩
theorem el_resp : Elem Tryz.prog 62 72 (.agg #[.int .i64 0, .slice none 0 0, .slice none 0 0]) 3 56 := ⟨by kernel_rfl, by kernel_rfl, rfl, by decide, by decide⟩
set_option maxHeartbeats 8000000 in
theorem run_q (w : World) (lb q : Nat) (hL : w.heap[lb]? = some (.cells #[.slice none 0 0, .slice (some ⟨q, 0, none⟩) 33 33] 65 (0, 0))) (hT : TenIs w) (hB : RowU q rqT w) (hm : MaxIs w) {R : Ending -> World -> Prop}
  (hR : ∀ v w' base A k A' k', w'.ownsRow base 72 3 v 2 [.int .i64 400, .slice A 1 k, .slice none 0 0, .int .i64 404, .slice A' 1 k', .slice none 0 0] -> Grow w w' -> R (.returned (.tuple #[v, .int .i64 0])) w') :
  Calls Tryz.prog 20 #[.agg #[.string ⟨#[91, 93]⟩, .slice none 0 0, .int .i64 0, .int .i64 0, .slice (some ⟨lb, 0, none⟩) 2 2]] w R := by
 have HR := Lh hR
 obtain ⟨wa, hwa⟩ : ∃ wa, wa = w.alloc (.cells #[.string ⟨#[91, 93]⟩, .slice none 0 0, .int .i64 0, .int .i64 0, .slice (some ⟨lb, 0, none⟩) 2 2] 69) := ⟨_, rfl⟩
 have BX : Hid (BoxH w w.heap.size #[.string ⟨#[91, 93]⟩, .slice none 0 0, .int .i64 0, .int .i64 0, .slice (some ⟨lb, 0, none⟩) 2 2] 69 wa) := by subst hwa; exact BoxH.laid _ _ (Grow.refl _)
 have HL := Lh hL; have HT := Lh hT; have HB := Lh hB; have HM := Lh hm; clear hR hL hT hB hm; have x0 := BX.out.cell 0; simp only [List.getElem?_toArray, List.getElem?_cons_zero] at x0; go_enter Tryz.func20, Tryz.ntmps20
 go_upto_region 1 with fail
 rw [show w.alloc (.cells #[.string ⟨#[91, 93]⟩, .slice none 0 0, .int .i64 0, .int .i64 0, .slice (some ⟨lb, 0, none⟩) 2 2] 69) = wa from hwa.symm]; clear hwa; go_wp2_with fail
 go_at_call 36; refine cparse _ ?_; intro w1 hg1; have BX1 := Lh (BX.out.tr hg1); clear hg1 BX x0; have x1 := BX1.out.cell 1; have x2 := BX1.out.cell 2; have x3 := BX1.out.cell 3; simp only [List.getElem?_toArray, List.getElem?_cons_zero, List.getElem?_cons_succ] at x1 x2 x3; go_wp2_with fail
 go_at_call 37; refine proxyNew _ ?_; intro s c m r w2 hS; have SV := Lh hS; have BX2 := Lh (BX1.out.tr hS.gr); have G2 := Lh BX2.out.grow
 have N1 : Hid (w.heap.size <= s /\ w.heap.size <= c) := ⟨Nat.le_trans BX1.out.grow.size hS.sv.2.1, Nat.le_trans BX1.out.grow.size hS.ca.2.1⟩
 have N2 : Hid (s < w2.heap.size /\ c < w2.heap.size) := ⟨hS.sv.lt, hS.ca.lt⟩
 have HT1 := Lh (HT.out.gr BX1.out.grow); have x4 := BX2.out.cell 4; simp only [List.getElem?_toArray, List.getElem?_cons_zero, List.getElem?_cons_succ] at x4; clear hS x1 x2 x3 BX1 BX2; go_wp2; clear x4
 go_loopw [8, 31] (fun o i wr => (o = .slice none 0 0 /\ i = .int .i64 0 /\ Hid (wr = w2)) ∨ (i = .int .i64 1 /\ Hid (∃ A k, wr.ownsRow w2.heap.size 72 3 o 1 [.int .i64 400, .slice A 1 k, .slice none 0 0] /\ Grow w2 wr)) ∨ (i = .int .i64 2 /\ Hid (∃ A k A' k', wr.ownsRow w2.heap.size 72 3 o 2 [.int .i64 400, .slice A 1 k, .slice none 0 0, .int .i64 404, .slice A' 1 k', .slice none 0 0] /\ Grow w wr))) (fun _ i _ => (2 - intOf i).toNat)
 case atStart => exact .inl ⟨rfl, rfl, rfl⟩
 case round =>
  rcases hrel with ⟨rfl, rfl, hw⟩ | ⟨rfl, hw⟩ | ⟨rfl, hw⟩
  ·obtain rfl := hw.out
   clear hw; have l0 : wr.cell? ⟨lb, 0, none⟩ = some (.slice none 0 0) := cell_of_row _ _ 0 _ _ _ (grow_blk G2.out HL.out); go_wp2_with fail
   refine do_nil _ s ?_; intro A k w3 hg3; have G3 := Lh hg3; clear hg3 l0; go_wp2_with (at_builtin; refine wpList_new (w0 := wr) rfl _ _ rfl el_resp (World.ownsRow_nil w3 wr.heap.size 72 3) rfl 1 _ rfl (by decide) rfl (by simp [Value.oneCell']) (by omega) G3.out ⟨Nat.le_refl _, G3.out.size⟩ ?_; intro v5 w5 hO5 hg5 hgr5 hb5; have HO5 := Lh hO5; have G5 := Lh hg5; clear hO5 hg5 hgr5 hb5)
   go_roundw
   case rel => exact .inr (.inl ⟨rfl, A, k, HO5.out, G5.out⟩)
   case measure => simp [intOf]
  ·obtain ⟨A, k, ho, hg⟩ := hw.out
   have GW : Hid (Grow w wr) := G2.out.tr hg; have l1 : wr.cell? ⟨lb, 1, none⟩ = some (.slice (some ⟨q, 0, none⟩) 33 33) := cell_of_row _ _ 1 _ _ _ (grow_blk GW.out HL.out); have HO := Lh ho; have SZ := Lh hg.size; have SV := Lh (SV.out.tr hg); clear ho hg hw; obtain ⟨oA, oc, rfl⟩ := own_slice HO.out; go_wp2_with fail
   refine do_q w1 wr s c m r q SV.out HT1.out (HB.out.tr GW.out) (HM.out.gr GW.out) ?_; intro A' k' w3 hb3; have HO3 := Lh (hb3.own HO.out N2.out.1 N2.out.2); have G3 : Hid (Grow w w3) := hb3.grow GW.out N1.out.1 N1.out.2; have SZ3 : Hid (w2.heap.size <= w3.heap.size) := Nat.le_trans SZ.out hb3.2.2.2.1; clear hb3 l1
   go_wp2_with (at_builtin; refine wpList_new (w0 := w) rfl _ _ rfl el_resp HO3.out rfl 1 _ rfl (by decide) rfl (by simp [Value.oneCell']) (by omega) G3.out ⟨G2.out.size, SZ3.out⟩ ?_; intro v5 w5 hO5 hg5 hgr5 hb5; have HO5 := Lh hO5; have G5 := Lh hg5; clear hO5 hg5 hgr5 hb5)
   go_roundw
   case rel => exact .inr (.inr ⟨rfl, A, k, A', k', HO5.out, G5.out⟩)
   case measure => simp [intOf]
  ·obtain ⟨A, k, A', k', ho, hg⟩ := hw.out
   go_wp2; exact HR.out _ _ _ _ _ _ _ ho hg
set_option maxHeartbeats 8000000 in
theorem live_q (w : World) (hm : MaxIs w) (hT : TenIs w) {R : Ending -> World -> Prop} (hR : ∀ w', Grow w w' -> R (.returned (.bool true)) w') :
  Calls Tryz.prog 6 #[] w R := by
 have HR := Lh hR; have HM := Lh hm; have HT := Lh hT; clear hR hm hT; have kc := fun (w : World) (C : Array Value) (n c : Nat) => Lib.run_convert_bytes_const (P := Tryz.prog) w 65 5 C n c Tryz.underlying65 Tryz.underlying5
 go_enter Tryz.func6, Tryz.ntmps6
 go_wp2_with fail
 go_at_call 20; clear kc; have GA : ∀ o o', Grow w ((w.alloc o).alloc o') := fun o o' => ((Grow.refl w).al _).al _
 have hL : ∀ o o', ((w.alloc o).alloc o').heap[w.heap.size + 1]? = some o' := fun o o' => by
  have := heap_alloc_new (w.alloc o) o'
  rwa [World.size_alloc] at this
 refine run_q _ (w.heap.size + 1) w.heap.size (hL _ _) (HT.out.gr (GA _ _)) ⟨_, _, blk_alA (heap_alloc_new w _) _⟩ (HM.out.gr (GA _ _)) ?_; intro v w2 base A k A' k' ho hg
 rcases ho.2 with ⟨_, h⟩ | ⟨g, cap, cur, rfl, h2, h3, h4, h5, h6, h7⟩
 ·exact absurd h (by decide)
 ·have a0 : w2.cell? ⟨g, 0, none⟩ = some (.int .i64 400) := by
   rw [cell_of_row _ _ _ _ _ _ h3]; have e3 := congrArg (fun l => l[0]?) h7; simpa using e3
  have a3 : w2.cell? ⟨g, 3, none⟩ = some (.int .i64 404) := by
   rw [cell_of_row _ _ _ _ _ _ h3]; have e3 := congrArg (fun l => l[3]?) h7; simpa using e3
  have G2 := Lh ((GA _ _).tr hg); clear ho hg h2 h3 h4 h5 h6 h7 GA hL; go_wp2; exact HR.out _ G2.out
end Go.Proofs.YteeeeddeacepmaaGreatDoor
