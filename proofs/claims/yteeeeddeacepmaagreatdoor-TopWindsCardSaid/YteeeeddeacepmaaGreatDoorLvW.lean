import Derived.Test.YteeeeddeacepmaaGreatDoorLvV
import Derived.Deep.DeepCutAuto
namespace Go.Proofs.YteeeeddeacepmaaGreatDoor
set_option maxRecDepth 100000
open Go.RowKit B
open Go.Maps (Keyed)
theorem results_rs {fn : Func} {p s : Tmp} {t1 : TypeId} (h : fn.results = #[.cell p t1, .tmp s]) (tmps : Array Value) (w : World) (g1 : Nat) (c1 : Array Value) (u1 : TypeId) (f1 : Nat × Nat) (d1 : TypeDesc)
  (hp : tmps.getD p undef = .pointer (some ⟨g1, 0, none⟩)) (hg1 : w.heap[g1]? = some (.cells c1 u1 f1)) {v : Value} (hv : tmps.getD s undef = v)
  (hd1 : (match d1 with | .struct _ | .array _ _ => true | _ => false) = true) (hu1 : Tryz.prog.underlying t1 = some d1) (hi1 : (Tryz.prog.info? t1).map (·.size) = some c1.size) :
  (results fn tmps).run Tryz.prog w = .ok (.tuple #[.agg c1, v]) w := by
 have hp' : tmps[p]?.getD undef = .pointer (some ⟨g1, 0, none⟩) := by simpa using hp
 have hv' : tmps[s]?.getD undef = v := by simpa using hv
 simp [results, h, hp', hv', asAddr, run_loadVar_row w g1 u1 t1 c1 f1 d1 hg1 hu1 (by cases d1 <;> first | rfl | simp at hd1) hi1]
theorem el_string : Elem Tryz.prog 110 9 (.string ⟨#[]⟩) 1 16 := ⟨by kernel_rfl, by kernel_rfl, rfl, by decide, by decide⟩
def rz : Array Value := #[.string ⟨#[]⟩, .string ⟨#[]⟩, .bool false, .bool false, .slice none 0 0]
def rq : Array Value := #[.string ⟨#[71, 69, 84]⟩, .string ⟨#[47, 97, 46, 106, 115, 111, 110]⟩, .bool false, .bool false, .slice none 0 0]
set_option maxHeartbeats 4000000 in
theorem parse_nil (w : World) {R : Ending -> World -> Prop} (hR : ∀ w', Grow w w' -> R (.returned (.tuple #[.agg rz, .bool false])) w') :
  Calls Tryz.prog 55 #[.slice none 0 0] w R := by
 have HR := Lh hR; clear hR
 obtain ⟨wa, hwa⟩ : ∃ wa, wa = w.alloc (.cells rz 130) := ⟨_, rfl⟩
 have GA : Hid (Grow w wa) := by subst hwa; exact (Grow.refl _).al _
 have BR : Hid (wa.heap[w.heap.size]? = some (.cells rz 130 (0, 0))) := by subst hwa; exact heap_alloc_new w _
 go_enter Tryz.func55, Tryz.ntmps55
 go_upto_region 1 with fail
 rw [show w.alloc (.cells #[.string ⟨#[]⟩, .string ⟨#[]⟩, .bool false, .bool false, .slice none 0 0] 130) = wa from hwa.symm]; clear hwa; go_wp2_with fail
 go_at_call 78; refine lines_nil _ ?_; intro w1 hg1; have G1 := Lh (GA.out.tr hg1); have BR1 := Lh (grow_blk hg1 BR.out); clear hg1 BR GA; go_wp2_with (refine wpList_store_row rfl 130 _ _ rfl w.heap.size rz rfl rfl 130 _ BR1.out (by kernel_rfl) rfl (by simp [rz, Value.oneCell']) ?_)
 refine bodyPost_ret (v := .tuple #[.agg rz, .bool false]) ?_ rfl (HR.out _ (lv_row G1.out (Nat.le_refl _) _)); exact results_rs rfl _ _ w.heap.size _ _ _ _ rfl (setRow_heap _ _ _ _ _ _ BR1.out) rfl rfl Tryz.underlying130 (by kernel_rfl)
set_option maxHeartbeats 8000000 in
theorem parse_q (w : World) (q : Nat) (hB : RowU q rqT w) (hm : MaxIs w) {R : Ending -> World -> Prop} (hR : ∀ w', Grow w w' -> R (.returned (.tuple #[.agg rq, .bool true])) w') :
  Calls Tryz.prog 55 #[.slice (some ⟨q, 0, none⟩) 33 33] w R := by
 have HR := Lh hR
 obtain ⟨wa, hwa⟩ : ∃ wa, wa = w.alloc (.cells rz 130) := ⟨_, rfl⟩
 have GA : Hid (Grow w wa) := by subst hwa; exact (Grow.refl _).al _
 have BR : Hid (wa.heap[w.heap.size]? = some (.cells rz 130 (0, 0))) := by subst hwa; exact heap_alloc_new w _
 have HB := Lh (hB.tr GA.out); have HM := Lh (hm.gr GA.out); have HM0 := Lh hm; clear hR hB hm; go_enter Tryz.func55, Tryz.ntmps55
 go_upto_region 1 with fail
 rw [show w.alloc (.cells #[.string ⟨#[]⟩, .string ⟨#[]⟩, .bool false, .bool false, .slice none 0 0] 130) = wa from hwa.symm]; clear hwa; go_wp2_with fail
 go_at_call 78; refine lines_q _ q HB.out HM.out ?_; intro b w1 hg1 hb1; have G1 := Lh (GA.out.tr hg1); have BR1 := Lh (grow_blk hg1 BR.out); have HM1 := Lh (HM.out.gr hg1); have BL := Lh hb1; have c0 := BL.out.cell 0; simp only [List.getElem?_toArray, List.getElem?_cons_zero] at c0; clear hg1 hb1 BR GA HB HM; go_wp2_with fail
 go_at_call 79; refine first_q _ HM1.out ?_; intro w2 hg2; have G2 := Lh (G1.out.tr hg2); have BR2 := Lh (grow_blk hg2 BR1.out); have HM2 := Lh (HM1.out.gr hg2); have BL2 := Lh (BL.out.tr hg2); clear hg2 BR1 G1 HM1 BL c0; have hmm := @run_makeMap Tryz.prog
 obtain ⟨w3, hw3⟩ : ∃ w3, w3 = w2.alloc (.map #[] 0) := ⟨_, rfl⟩
 obtain ⟨m, hmb⟩ : ∃ m, m = w2.heap.size := ⟨_, rfl⟩
 have G3 : Hid (Grow w w3) := by rw [hw3]; exact G2.out.al _
 have BR3 : Hid (w3.heap[w.heap.size]? = some (.cells rz 130 (0, 0))) := by rw [hw3]; exact grow_blk ((Grow.refl _).al _) BR2.out
 have HM3 : Hid (MaxIs w3) := by rw [hw3]; exact HM2.out.gr ((Grow.refl _).al _)
 have BL3 : Hid (BoxH wa b #[.string ⟨#[71, 69, 84, 32, 47, 97, 46, 106, 115, 111, 110, 32, 72, 84, 84, 80, 47, 49, 46, 49]⟩, .string ⟨#[72, 111, 115, 116, 58, 32, 104]⟩] 9 w3) := by rw [hw3]; exact BL2.out.tr ((Grow.refl _).al _)
 have M3 : Hid (MapF Tryz.prog 9 w3 m 0 fun _ => none) := by rw [hw3, hmb]; exact MapF.made w2 Tryz.prog 9
 have MB : Hid (w.heap.size < m) := by rw [hmb]; exact lt_of_block BR2.out
 clear G2 BR2 HM2 BL2; go_upto_region 8 with fail
 rw [show w2.alloc (.map #[] 0) = w3 from hw3.symm, show w2.heap.size = m from hmb.symm]; clear hw3 hmb hmm; go_wp2
 go_loopw [42] (fun i wr => (i = .int .i64 0 /\ Hid (wr = w3)) ∨ (i = .int .i64 1 /\ Hid (∃ vb c, MapF Tryz.prog 9 wr m 1 (hdF (.slice (some ⟨vb, 0, none⟩) 1 c)) /\ wr.cell? ⟨vb, 0, none⟩ = some (.string ⟨#[104]⟩) /\ Grow w wr /\ wr.heap[w.heap.size]? = some (.cells rz 130 (0, 0)) /\ MaxIs wr))) (fun i _ => (1 - intOf i).toNat)
 case atStart => exact .inl ⟨rfl, rfl⟩
 case round =>
  rcases hrel with ⟨rfl, hw⟩ | ⟨rfl, hw⟩
  ·obtain rfl := hw.out
   clear hw; have c1 := BL3.out.cell 1; simp only [List.getElem?_toArray, List.getElem?_cons_zero, List.getElem?_cons_succ] at c1; go_wp2_with fail
   go_at_call 80; refine header_q _ HM3.out ?_; intro w4 hg4; have G4 := Lh (G3.out.tr hg4); have BR4 := Lh (grow_blk hg4 BR3.out); have HM4 := Lh (HM3.out.gr hg4); have M4 := Lh (M3.out.gr hg4); have LT : Hid (m < w4.heap.size) := M4.out.lt; clear hg4 c1 G3 BR3 HM3 M3 BL3
   go_wp2_with (first
    | (at_lookup; refine wpList_look1 _ rfl _ _ _ rfl M4.out rfl keyS Tryz.underlying184 (zeroSs _) (key := .string ⟨#[104, 111, 115, 116]⟩) rfl (strKey (by decide)) (v := .slice none 0 0) rfl ?_)
    | (at_builtin; refine wpList_new (w0 := w) rfl _ _ rfl el_string (World.ownsRow_nil w4 w4.heap.size 9 1) rfl 1 _ rfl (by decide) rfl (by simp [Value.oneCell']) (by omega) G4.out ⟨G4.out.size, Nat.le_refl _⟩ ?_; intro v5 w5 hO5 hg5 hgr5 hb5; have HO5 := Lh hO5; have G5 := Lh hg5; have GR5 : Hid (Grow w4 w5) := grow_app (Grow.refl _) hgr5 (fun k hk => by cases hk); clear hO5 hg5 hgr5 hb5)
    | (at_mapUpdate; refine wpList_upd _ rfl _ _ _ _ rfl (M4.out.gr GR5.out) rfl keyS Tryz.underlying184 (by unfold maxLen; omega) (key := .string ⟨#[104, 111, 115, 116]⟩) (val := v5) rfl rfl (strKey (by decide)) (hdF_host v5) (fun y hy => hdF_not y hy) ?_; intro w6 hm6 hg6; have M6 := Lh hm6; have GB6 := Lh hg6; clear hm6 hg6))
   go_roundw
   case rel =>
    refine .inr ⟨rfl, ?_⟩; obtain ⟨hx, he | ⟨vb, c, cur, hv, h1, h2, h3, h4, h5, h6⟩⟩ := HO5.out
    ·exact absurd he.2 (by decide)
    ·have hvb : vb ≠ m := by have := LT.out; omega
     have hG : Grow w w6 := grow_app G5.out GB6.out (fun k hk => by injection hk with hk; have := MB.out; omega); subst hv; refine ⟨vb, c, M6.out, ?_, ?_, ?_, ?_⟩
     ·have e : w6.heap[vb]? = some (.cells cur 9 (0, 0)) := (GB6.out.block vb (lt_of_block h2) (by simp [hvb])).trans h2
      rw [cell_of_row _ _ _ _ _ _ e]; have e2 : cur.toList.take 1 = [.string ⟨#[104]⟩] := h6; have e3 := congrArg (fun l => l[0]?) e2; simpa using e3
     ·exact hG
     ·exact (GB6.out.block _ (lt_of_block (grow_blk GR5.out BR4.out)) (by have := MB.out; simp; omega)).trans (grow_blk GR5.out BR4.out)
     ·exact HM0.out.gr hG
   case measure => simp [intOf]
  ·obtain ⟨vb, c, hM, hv, hG, hR, hX⟩ := hw.out
   have M4 := Lh hM; have G4 := Lh hG; have BR4 := Lh hR; have HM4 := Lh hX; have HV := Lh hv; clear hM hv hG hR hX hw; go_wp2_with fail
   go_at_call 81; refine right_q wr m 1 vb c M4.out HV.out ?_; intro w5 hg5; have G5 := Lh (G4.out.tr hg5); have BR5 := Lh (grow_blk hg5 BR4.out); have HM5 := Lh (HM4.out.gr hg5); have M5 := Lh (M4.out.gr hg5); clear hg5 G4 BR4 HM4 M4 HV; go_wp2_with fail
   go_at_call 82; refine cut_at (a := [47, 97, 46, 106, 115, 111, 110]) (b := []) (ok := false) (by decide +kernel) (by decide) _ HM5.out ?_; intro w6 hg6; have G6 := Lh (G5.out.tr hg6); have BR6 := Lh (grow_blk hg6 BR5.out); have M6 := Lh (M5.out.gr hg6); clear hg6 G5 BR5 HM5 M5
   go_wp2_with (at_lookup; refine wpList_look1 _ rfl _ _ _ rfl M6.out rfl keyS Tryz.underlying184 (zeroSs _) (key := .string ⟨#[105, 102, 45, 110, 111, 110, 101, 45, 109, 97, 116, 99, 104]⟩) rfl (strKey (by decide)) (v := .slice none 0 0) (by rw [hdF_not _ (by intro e; injection e with e; exact absurd e (by decide))]; rfl) ?_)
   go_at_call 83; refine tags_nil _ ?_; go_wp2_with (at_lookup; refine wpList_look1 _ rfl _ _ _ rfl M6.out rfl keyS Tryz.underlying184 (zeroSs _) (key := .string ⟨#[97, 99, 99, 101, 112, 116, 45, 101, 110, 99, 111, 100, 105, 110, 103]⟩) rfl (strKey (by decide)) (v := .slice none 0 0) (by rw [hdF_not _ (by intro e; injection e with e; exact absurd e (by decide))]; rfl) ?_)
   go_at_call 84; refine accepts_nil _ ?_; intro w7 hg7; have G7 := Lh (G6.out.tr hg7); have BR7 := Lh (grow_blk hg7 BR6.out); clear hg7 G6 BR6 M6; go_wp2_with (refine wpList_store_row rfl 130 _ _ rfl w.heap.size rq rfl rfl 130 _ BR7.out (by kernel_rfl) rfl (by simp [rq, Value.oneCell']) ?_)
   refine bodyPost_ret (v := .tuple #[.agg rq, .bool true]) ?_ rfl (HR.out _ (lv_row G7.out (Nat.le_refl _) _)); exact results_rs rfl _ _ w.heap.size _ _ _ _ rfl (setRow_heap _ _ _ _ _ _ BR7.out) rfl rfl Tryz.underlying130 (by kernel_rfl)
end Go.Proofs.YteeeeddeacepmaaGreatDoor
