import Derived.Test.YteeeeddeacepmaaGreatDoorLvSJ
import Derived.Deep.DeepCutAuto
import Derived.Maps.OwnSet
namespace Go.Proofs.YteeeeddeacepmaaGreatDoor
set_option maxRecDepth 100000
open Go.RowKit B
def jl : Array Value := #[.int .i64 4, .bool false, .bool false, .string ⟨#[]⟩, .int .i64 0, .string ⟨#[]⟩, .slice none 0 0, .slice none 0 0]
def jz : Array Value := #[.int .i64 0, .bool false, .bool false, .string ⟨#[]⟩, .int .i64 0, .string ⟨#[]⟩, .slice none 0 0, .slice none 0 0]
set_option maxHeartbeats 4000000 in
theorem jmany (w0 w : World) (b : Nat) (h : RdJ w0 b 0 w) {R : Ending -> World -> Prop} (hR : ∀ w', RdJ w0 b 2 w' -> w.grownBy w' (some b) -> R (.returned (.agg jl)) w') :
  Calls Tryz.prog 105 #[.pointer (some ⟨b, 0, none⟩), .agg jl, .int .u8 93, .int .i64 64] w R := by
 have HR := Lh hR; have hlt := (h : BoxH w0 b _ _ w).lt; have W0 : Hid (w0.heap.size <= w.heap.size) := (h : BoxH w0 b _ _ w).grow.size
 obtain ⟨wa, hwa⟩ : ∃ wa, wa = (w.alloc (.cells jl 112)).alloc (.cells jz 112) := ⟨_, rfl⟩
 have GA : Hid (Grow w wa) := by subst hwa; exact ((Grow.refl _).al _).al _
 have HB := Lh ((h : BoxH w0 b _ _ w).tr GA.out)
 have FJ : Hid (wa.heap[w.heap.size]? = some (.cells jl 112 (0, 0))) := by
  subst hwa; exact blk_al w _ _ ((Grow.refl _).al _)
 have FZ : Hid (wa.heap[w.heap.size + 1]? = some (.cells jz 112 (0, 0))) := by
  subst hwa; have := blk_al (w.alloc (.cells jl 112)) jz 112 (Grow.refl _)
  rwa [World.size_alloc] at this
 have n1 : w.heap.size ≠ b := by omega
 have n2 : w.heap.size + 1 ≠ b := by omega
 have HN := Lh (And.intro n1 n2); clear hR h hlt n1 n2; have c0 := HB.out.cell 0; have c1 := HB.out.cell 1; have f1 := HB.out.free 1; simp only [List.getElem?_toArray, List.getElem?_cons_zero, List.getElem?_cons_succ] at c0 c1; go_enter Tryz.func105, Tryz.ntmps105
 go_upto_region 1 with fail
 rw [show (w.alloc (.cells jl 112)).alloc (.cells #[.int .i64 0, .bool false, .bool false, .string ⟨#[]⟩, .int .i64 0, .string ⟨#[]⟩, .slice none 0 0, .slice none 0 0] 112) = wa from hwa.symm]; clear hwa; go_upto_region 2 with fail
 have HB1 := Lh (HB.out.set 1 (.int .i64 1)); have GB := lv_tr (lv_by (row := some b) GA.out) (lv_set (Grow.refl wa) b 1 (.int .i64 1)); have GB := Lh GB; have FJ := Lh ((lv_oth wa b 1 (.int .i64 1) HN.out.1).trans FJ.out); have FZ := Lh ((lv_oth wa b 1 (.int .i64 1) HN.out.2).trans FZ.out); clear HB c0 c1 f1 GA; generalize wa.setCell ⟨b, 1, none⟩ (.int .i64 1) = w1 at *; have PK := Lh fun (R : Ending -> World -> Prop) hR => jpeek1 w0 w1 b HB1.out (R := R) hR
 go_wp2_with fail
 go_at_call 102; refine PK.out _ ?_; intro w2 hg2; have HB2 := Lh ((HB1.out : BoxH w0 b _ _ w1).tr hg2); have GB := Lh (lv_tr GB.out (lv_by hg2)); have FJ := Lh (grow_blk hg2 FJ.out); have FZ := Lh (grow_blk hg2 FZ.out); clear HB1 PK hg2; have c0 := HB2.out.cell 0; have c1 := HB2.out.cell 1; have f1 := HB2.out.free 1; simp only [List.getElem?_toArray, List.getElem?_cons_zero, List.getElem?_cons_succ, sA, sZ, sS] at c0 c1 f1; go_upto_region 4 with fail
 have HB3 := Lh (HB2.out.set 1 (.int .i64 2)); have GB := Lh (lv_tr GB.out (lv_set (Grow.refl w2) b 1 (.int .i64 2))); have FJ := Lh ((lv_oth w2 b 1 (.int .i64 2) HN.out.1).trans FJ.out); have FZ := Lh ((lv_oth w2 b 1 (.int .i64 2) HN.out.2).trans FZ.out); clear HB2 c0 c1 f1; generalize w2.setCell ⟨b, 1, none⟩ (.int .i64 2) = w3 at *
 go_wp2_with (first | (refine wpList_load_row rfl 112 _ rfl w.heap.size rfl 112 _ _ _ FJ.out Tryz.underlying112 rfl (by kernel_rfl) ?_) | (refine wpList_store_row rfl 112 _ _ rfl (w.heap.size + 1) jl rfl rfl 112 _ FZ.out (by kernel_rfl) rfl (by simp [jl, Value.oneCell']) ?_))
 refine bodyPost_ret (v := .agg jl) ?_ rfl (HR.out _ ?_ ?_)
 ·exact results_cell_row rfl _ _ (w.heap.size + 1) _ _ _ _ rfl (setRow_heap _ _ _ _ _ _ FZ.out) Tryz.underlying112 rfl (by kernel_rfl)
 ·exact lv_box HB3.out (fun e => HN.out.2 e.symm) (Nat.le_trans W0.out (Nat.le_succ _)) _
 ·exact lv_rowby GB.out (Nat.le_succ _) _
set_option maxHeartbeats 4000000 in
theorem jvalue (w0 w : World) (b : Nat) (h : RdJ w0 b 0 w) {R : Ending -> World -> Prop} (hR : ∀ w', RdJ w0 b 2 w' -> w.grownBy w' (some b) -> R (.returned (.agg jl)) w') :
  Calls Tryz.prog 63 #[.pointer (some ⟨b, 0, none⟩), .int .i64 64] w R := by
 have HR := Lh hR; have hlt := (h : BoxH w0 b _ _ w).lt; have W0 : Hid (w0.heap.size <= w.heap.size) := (h : BoxH w0 b _ _ w).grow.size
 obtain ⟨wa, hwa⟩ : ∃ wa, wa = w.alloc (.cells jz 112) := ⟨_, rfl⟩
 have GA : Hid (Grow w wa) := by subst hwa; exact (Grow.refl _).al _
 have HB := Lh ((h : BoxH w0 b _ _ w).tr GA.out)
 have FZ : Hid (wa.heap[w.heap.size]? = some (.cells jz 112 (0, 0))) := by
  subst hwa; exact blk_al w _ _ (Grow.refl _)
 have HN : Hid (w.heap.size ≠ b) := by show _ ≠ _; omega
 clear hR h hlt; have PK := Lh fun (R : Ending -> World -> Prop) hR => jpeek0 w0 wa b HB.out (R := R) hR
 go_enter Tryz.func63, Tryz.ntmps63
 go_upto_region 1 with fail
 rw [show w.alloc (.cells #[.int .i64 0, .bool false, .bool false, .string ⟨#[]⟩, .int .i64 0, .string ⟨#[]⟩, .slice none 0 0, .slice none 0 0] 112) = wa from hwa.symm]; clear hwa; go_wp2_with fail
 go_at_call 102; refine PK.out _ ?_; intro w1 hg1; have HB := Lh ((HB.out : BoxH w0 b _ _ wa).tr hg1); have GB := Lh (lv_by (row := some b) (GA.out.tr hg1)); have FZ := Lh (grow_blk hg1 FZ.out); have MN := Lh fun (R : Ending -> World -> Prop) hR => jmany w0 w1 b HB.out (R := R) hR
 clear hg1 PK GA; go_wp2_with fail
 go_at_call 105; refine MN.out _ ?_; intro w2 hJ hgb; have HJ := Lh hJ; have FZ : Hid (w2.heap[w.heap.size]? = some (.cells jz 112 (0, 0))) := (hgb.block _ (lt_of_block FZ.out) fun e => HN.out (by injection e with e)).trans FZ.out; have GB := Lh (lv_tr GB.out hgb); clear hJ hgb MN HB; go_wp2_with (refine wpList_store_row rfl 112 _ _ rfl w.heap.size jl rfl rfl 112 _ FZ.out (by kernel_rfl) rfl (by simp [jl, Value.oneCell']) ?_)
 refine bodyPost_ret (v := .agg jl) ?_ rfl (HR.out _ ?_ ?_)
 ·exact results_cell_row rfl _ _ w.heap.size _ _ _ _ rfl (setRow_heap _ _ _ _ _ _ FZ.out) Tryz.underlying112 rfl (by kernel_rfl)
 ·exact lv_box HJ.out (fun e => HN.out e.symm) W0.out _
 ·exact lv_rowby GB.out (Nat.le_refl _) _
theorem jstop_nil (W : World) : (Instr.typeAssert .nilIface 20 143 true).run Tryz.prog W = .ok (.tuple #[.agg #[.int .i64 0, .int .i64 0], .bool false]) W := by kernel_rfl
set_option maxHeartbeats 2000000 in
theorem jcatch (p q r : Addr) (w : World) :
  CallsD Tryz.prog 62 #[.pointer (some p), .pointer (some q), .pointer (some r)] .returning w fun e u' w' => e = .returned (.tuple #[]) /\ u' = .returning /\ Grow w w' := by
 have hs := jstop_nil; refine callsD_of_wpS Tryz.func62 rfl fun c₀ cs hu => ?_
 simp only [Tryz.ntmps62, List.size_toArray, List.length_cons, List.length_nil, Nat.reduceAdd, Nat.reduceSub, Array.replicate_succ, Array.replicate_zero, List.push_toArray, List.append_toArray, List.nil_append, List.cons_append]; refine wpS_recover (v := .nilIface) (cs' := c₀ :: cs) rfl rfl (by simp [recOf, recoverD, hu]) ?_; go_wp2; refine wpS_of_wp ?_; go_wp2; exact ⟨rfl, c₀.mode, by cases c₀; rfl, .tuple #[], results_none rfl _ _ _, rfl, hu, (Grow.refl w).al _⟩
set_option maxHeartbeats 400000 in
theorem jres (xb ab eb : Nat) (a e : Value) (cs : Array Value) (hcs : cs.size = 8) (W : World) (tmps : Array Value) (h2 : tmps.getD 2 undef = .pointer (some ⟨xb, 0, none⟩)) (h3 : tmps.getD 3 undef = .pointer (some ⟨ab, 0, none⟩)) (h4 : tmps.getD 4 undef = .pointer (some ⟨eb, 0, none⟩))
  (hx : W.heap[xb]? = some (.cells cs 112 (0, 0))) (ha : W.cell? ⟨ab, 0, none⟩ = some a) (he : W.cell? ⟨eb, 0, none⟩ = some e) : (results Tryz.f49 tmps).run Tryz.prog W = .ok (.tuple #[.agg cs, a, e]) W := by
 have h2' : tmps[2]?.getD undef = .pointer (some ⟨xb, 0, none⟩) := by simpa using h2
 have h3' : tmps[3]?.getD undef = .pointer (some ⟨ab, 0, none⟩) := by simpa using h3
 have h4' : tmps[4]?.getD undef = .pointer (some ⟨eb, 0, none⟩) := by simpa using h4
 have hs : (Tryz.prog.info? 112).map (·.size) = some cs.size := by rw [hcs]; kernel_rfl
 have hl1 := run_loadVar_row W xb 112 112 cs (0, 0) _ hx Tryz.underlying112 rfl hs; have hl2 : (loadVar 3 ⟨ab, 0, none⟩).run Tryz.prog W = .ok a W := by simp [go_sem, ha]
 have hl3 : (loadVar 47 ⟨eb, 0, none⟩).run Tryz.prog W = .ok e W := by simp [go_sem, he]
 simp [results, Tryz.results49, h2', h3', h4', asAddr, hl1, hl2, hl3]
theorem jmf : ∀ (fn : Fn) (first cap : Array Value) (w : World), (Instr.makeFunc fn first cap).run Tryz.prog w = .ok (.func fn first cap) w := fun _ _ _ _ => rfl
set_option maxHeartbeats 1000000 in
theorem jdoor {tmps : Array Value} {R : Ending -> World -> Prop} (xb ab eb : Nat) (w0 W : World) (hx : BoxH w0 xb jl 112 W) (ha : BoxH w0 ab #[.int .i64 2] 3 W) (he : BoxH w0 eb #[.int .i64 0] 47 W)
  (h2 : tmps.getD 2 undef = .pointer (some ⟨xb, 0, none⟩)) (h3 : tmps.getD 3 undef = .pointer (some ⟨ab, 0, none⟩)) (h4 : tmps.getD 4 undef = .pointer (some ⟨eb, 0, none⟩)) (hR : ∀ w', Grow w0 w' -> R (.returned (.tuple #[.agg jl, .int .i64 2, .int .i64 0])) w') :
  bodyPostD Tryz.prog Tryz.f49 R .ret { tmps := tmps, defers := [{ target := .fn (.func 62) #[.pointer (some ⟨xb, 0, none⟩), .pointer (some ⟨ab, 0, none⟩), .pointer (some ⟨eb, 0, none⟩)], args := #[] }] } W := by
 show Leaves _ _ _ _ _ _ _; refine leaves_cons (f := 62) (args := #[.pointer (some ⟨xb, 0, none⟩), .pointer (some ⟨ab, 0, none⟩), .pointer (some ⟨eb, 0, none⟩)]) (by simp) (by simp [go_sem]) ?_; refine (jcatch ⟨xb, 0, none⟩ ⟨ab, 0, none⟩ ⟨eb, 0, none⟩ W).mono ?_; rintro e u' w'' ⟨rfl, rfl, hg⟩; exact ⟨_, jres xb ab eb _ _ jl rfl _ _ h2 h3 h4 (hx.tr hg).2.2 ((ha.tr hg).cell 0) ((he.tr hg).cell 0), hR _ (hx.tr hg).grow⟩
set_option maxHeartbeats 4000000 in
theorem jparse (w : World) {R : Ending -> World -> Prop} (hR : ∀ w', Grow w w' -> R (.returned (.tuple #[.agg jl, .int .i64 2, .int .i64 0])) w') :
  Calls Tryz.prog 49 #[.string ⟨#[91, 93]⟩] w R := by
 have HR := Lh hR; have hmf := jmf
 obtain ⟨wa, hwa⟩ : ∃ wa, wa = (((w.alloc (.cells jz 112)).alloc (.cells #[.int .i64 0] 3)).alloc (.cells #[.int .i64 0] 47)).alloc (.cells #[.string ⟨#[91, 93]⟩, .int .i64 0] 147) := ⟨_, rfl⟩
 have BX : Hid (BoxH w w.heap.size jz 112 wa) := by
  subst hwa; exact (((BoxH.laid jz 112 (Grow.refl w)).tr ((Grow.refl _).al _)).tr ((Grow.refl _).al _)).tr ((Grow.refl _).al _)
 have BA : Hid (BoxH w (w.heap.size + 1) #[.int .i64 0] 3 wa) := by
  have := (((BoxH.laid (w := w.alloc (.cells jz 112)) #[.int .i64 0] 3 ((Grow.refl w).al _)).tr ((Grow.refl _).al (.cells #[.int .i64 0] 47))).tr ((Grow.refl _).al (.cells #[.string ⟨#[91, 93]⟩, .int .i64 0] 147)))
  rw [World.size_alloc] at this; subst hwa; exact this
 have BE : Hid (BoxH w (w.heap.size + 2) #[.int .i64 0] 47 wa) := by
  have := ((BoxH.laid (w := (w.alloc (.cells jz 112)).alloc (.cells #[.int .i64 0] 3)) #[.int .i64 0] 47 (((Grow.refl w).al _).al _)).tr ((Grow.refl _).al (.cells #[.string ⟨#[91, 93]⟩, .int .i64 0] 147)))
  rw [World.size_alloc, World.size_alloc] at this; subst hwa; exact this
 have BR : Hid (RdJ w (w.heap.size + 3) 0 wa) := by
  have := (BoxH.laid (w := ((w.alloc (.cells jz 112)).alloc (.cells #[.int .i64 0] 3)).alloc (.cells #[.int .i64 0] 47)) #[.string ⟨#[91, 93]⟩, .int .i64 0] 147 ((((Grow.refl w).al _).al _).al _))
  rw [World.size_alloc, World.size_alloc, World.size_alloc] at this; subst hwa; exact this
 clear hR
 go_enter_defers Tryz.func49, Tryz.ntmps49
 go_upto_region 5 with fail
 rw [show (((w.alloc (.cells #[.int .i64 0, .bool false, .bool false, .string ⟨#[]⟩, .int .i64 0, .string ⟨#[]⟩, .slice none 0 0, .slice none 0 0] 112)).alloc (.cells #[.int .i64 0] 3)).alloc (.cells #[.int .i64 0] 47)).alloc (.cells #[.string ⟨#[91, 93]⟩, .int .i64 0] 147) = wa from hwa.symm]; clear hwa; have VL := Lh fun (R : Ending -> World -> Prop) hR => jvalue w wa (w.heap.size + 3) BR.out (R := R) hR
 have NE : Hid (w.heap.size ≠ w.heap.size + 3 /\ w.heap.size + 1 ≠ w.heap.size + 3 /\ w.heap.size + 2 ≠ w.heap.size + 3 /\ w.heap.size + 1 ≠ w.heap.size /\ w.heap.size + 2 ≠ w.heap.size /\ w.heap.size + 1 ≠ w.heap.size + 2 /\ w.heap.size <= w.heap.size + 1 /\ w.heap.size <= w.heap.size + 2 /\ w.heap.size <= w.heap.size + 3) := by
  refine ⟨?_, ?_, ?_, ?_, ?_, ?_, ?_, ?_, ?_⟩ <;> omega
 go_wp2_with fail
 go_at_call 63; refine VL.out _ ?_; intro w1 hJ hgb; have HJ := Lh hJ; have BX := Lh (BX.out.by_ hgb (fun k e => by injection e with e; rw [<- e]; exact NE.out.2.2.2.2.2.2.2.2) (fun e => NE.out.1 (by injection e with e))); have BA := Lh (BA.out.by_ hgb (fun k e => by injection e with e; rw [<- e]; exact NE.out.2.2.2.2.2.2.2.2) (fun e => NE.out.2.1 (by injection e with e))); have BE := Lh (BE.out.by_ hgb (fun k e => by injection e with e; rw [<- e]; exact NE.out.2.2.2.2.2.2.2.2) (fun e => NE.out.2.2.1 (by injection e with e))); clear hJ hgb VL BR; have FX := Lh BX.out.2.2
 go_upto_region 6 with (refine wpList_store_row rfl 112 _ _ rfl w.heap.size jl rfl rfl 112 _ FX.out (by kernel_rfl) rfl (by simp [jl, Value.oneCell']) ?_)
 have BX1 : Hid (BoxH w w.heap.size jl 112 (w1.setRow w.heap.size jl)) := ⟨lv_row BX.out.1 (Nat.le_refl _) _, Nat.le_refl _, setRow_heap _ _ _ _ _ _ FX.out⟩
 have BA := Lh (lv_box BA.out NE.out.2.2.2.1 (Nat.le_refl _) jl); have BE := Lh (lv_box BE.out NE.out.2.2.2.2.1 (Nat.le_refl _) jl); have HJ := Lh (lv_box HJ.out (fun e => NE.out.1 e.symm) (Nat.le_refl _) jl); clear BX FX; generalize w1.setRow w.heap.size jl = w2 at *; have SK := Lh fun (R : Ending -> World -> Prop) hR => jskip2 w w2 (w.heap.size + 3) HJ.out (R := R) hR
 go_wp2_with fail
 go_at_call 64; refine SK.out _ ?_; intro w3 hg3; have HJ := Lh ((HJ.out : BoxH w _ _ _ w2).tr hg3); have BX := Lh (BX1.out.tr hg3); have BA := Lh (BA.out.tr hg3); have BE := Lh (BE.out.tr hg3); clear hg3 SK BX1; have c1 := HJ.out.cell 1; simp only [List.getElem?_toArray, List.getElem?_cons_zero, List.getElem?_cons_succ] at c1; have FX := Lh BX.out.2.2
 have BX4 : Hid (BoxH w w.heap.size jl 112 (w3.setRow w.heap.size jl)) := ⟨lv_row BX.out.1 (Nat.le_refl _) _, Nat.le_refl _, setRow_heap _ _ _ _ _ _ FX.out⟩
 have BA4 := Lh (lv_box BA.out NE.out.2.2.2.1 (Nat.le_refl _) jl); have BE4 := Lh (lv_box BE.out NE.out.2.2.2.2.1 (Nat.le_refl _) jl); have a0 := BA4.out.cell 0; have a1 := BA4.out.free 0; have e0 := BE4.out.cell 0; have e1 := BE4.out.free 0; have n1 := NE.out.2.2.2.2.2.1; have n2 : w.heap.size + 2 ≠ w.heap.size + 1 := fun e => n1 e.symm
 simp only [List.getElem?_toArray, List.getElem?_cons_zero] at a0 e0; go_wp2_with (first | (refine wpList_load_row rfl 112 _ rfl w.heap.size rfl 112 _ _ _ FX.out Tryz.underlying112 rfl (by kernel_rfl) ?_) | (refine wpList_store_row rfl 112 _ _ rfl w.heap.size jl rfl rfl 112 _ FX.out (by kernel_rfl) rfl (by simp [jl, Value.oneCell']) ?_))
 have BX5 := Lh ((BX4.out.other (j := 0) (v := .int .i64 2) (cc := w.heap.size + 1) (fun e => NE.out.2.2.2.1 e.symm) NE.out.2.2.2.2.2.2.1).other (j := 0) (v := .int .i64 0) (cc := w.heap.size + 2) (fun e => NE.out.2.2.2.2.1 e.symm) NE.out.2.2.2.2.2.2.2.1); have BA5 := Lh ((BA4.out.set 0 (.int .i64 2)).other (j := 0) (v := .int .i64 0) (cc := w.heap.size + 2) n1 NE.out.2.2.2.2.2.2.2.1); have BE5 := Lh ((BE4.out.other (j := 0) (v := .int .i64 2) (cc := w.heap.size + 1) n2 NE.out.2.2.2.2.2.2.1).set 0 (.int .i64 0))
 exact jdoor w.heap.size (w.heap.size + 1) (w.heap.size + 2) w _ BX5.out BA5.out BE5.out rfl rfl rfl HR.out
end Go.Proofs.YteeeeddeacepmaaGreatDoor
namespace Go.Proofs.YteeeeddeacepmaaGreatDoor
set_option maxRecDepth 100000
open Go.RowKit B
set_option maxHeartbeats 2000000 in
theorem cright (w : World) {R : Ending -> World -> Prop} (hR : ∀ w', Grow w w' -> R (.returned (.bool true)) w') :
  Calls Tryz.prog 51 #[.slice none 0 0] w R := by
 have HR := Lh hR; clear hR; have hmm := @run_makeMap Tryz.prog; go_enter Tryz.func51, Tryz.ntmps51
 go_wp2
 go_loopw [12] (fun i wr => i = .int .i64 0 /\ Hid (Grow w wr)) (fun _ _ => 0)
 case atStart => exact ⟨rfl, (Grow.refl _).al _⟩
 case round =>
  obtain ⟨rfl, hg⟩ := hrel; go_wp2; exact HR.out _ hg.out
set_option maxHeartbeats 2000000 in
theorem cparse (w : World) {R : Ending -> World -> Prop} (hR : ∀ w', Grow w w' -> R (.returned (.tuple #[.slice none 0 0, .int .i64 0])) w') :
  Calls Tryz.prog 36 #[.string ⟨#[91, 93]⟩] w R := by
 have HR := Lh hR; clear hR; go_enter Tryz.func36, Tryz.ntmps36
 go_wp2_with fail
 go_at_call 49; refine jparse _ ?_; intro w1 hg1; have FZ : Hid ((w1.alloc (.cells jz 112)).heap[w1.heap.size]? = some (.cells jz 112 (0, 0))) := blk_al w1 _ _ (Grow.refl _)
 obtain ⟨wb, hwb⟩ : ∃ wb, wb = (w1.alloc (.cells jz 112)).setRow w1.heap.size jl := ⟨_, rfl⟩
 have G1 : Hid (Grow w wb) := by subst hwb; exact hg1.tr (lv_row ((Grow.refl _).al _) (Nat.le_refl _) _)
 have FJ : Hid (wb.heap[w1.heap.size]? = some (.cells jl 112 (0, 0))) := by subst hwb; exact setRow_heap _ _ _ _ _ _ FZ.out
 have c0 : wb.cell? ⟨w1.heap.size, 0, none⟩ = some (.int .i64 4) := cell_of_row _ _ 0 jl _ _ FJ.out; have c6 : wb.cell? ⟨w1.heap.size, 6, none⟩ = some (.slice none 0 0) := cell_of_row _ _ 6 jl _ _ FJ.out; clear hg1 FJ; go_upto_region 2 with (refine wpList_store_row rfl 112 _ _ rfl w1.heap.size jl rfl rfl 112 _ FZ.out (by kernel_rfl) rfl (by simp [jl, Value.oneCell']) ?_)
 rw [show (w1.alloc (.cells #[.int .i64 0, .bool false, .bool false, .string ⟨#[]⟩, .int .i64 0, .string ⟨#[]⟩, .slice none 0 0, .slice none 0 0] 112)).setRow w1.heap.size jl = wb from hwb.symm]; clear hwb FZ; go_wp2
 go_loopw [7, 29] (fun o i wr => o = .slice none 0 0 /\ i = .int .i64 0 /\ Hid (Grow w wr)) (fun _ _ _ => 0)
 case atStart => exact ⟨rfl, rfl, G1.out⟩
 case round =>
  obtain ⟨rfl, rfl, hg⟩ := hrel; go_wp2_with fail
  go_at_call 51; refine cright _ ?_; intro w2 hg2; have G2 := Lh (hg.out.tr hg2); clear hg2; go_wp2; exact HR.out _ G2.out
end Go.Proofs.YteeeeddeacepmaaGreatDoor
