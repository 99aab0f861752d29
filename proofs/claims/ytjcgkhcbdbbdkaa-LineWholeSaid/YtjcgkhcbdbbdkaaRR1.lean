/-
  The reference's rings, first part: turn, in, cross.
-/
import Derived.Test.YtjcgkhcbdbbdkaaChecked
import Derived.Test.YtjcgkhcbdbbdkaaRow
import Derived.Deep.Cut
namespace Go.Proofs.Ytjcgkhcbdbbdkaa
open Go.RowKit Go.Lib B

def PV.turn (p : PV) : PV := ⟨p.y, p.x⟩
def PtQ.turn (p : PtQ) : PtQ := ⟨p.y, p.x⟩
theorem PV.turn_q (p : PV) : p.turn.q = p.q.turn := rfl
theorem PV.rd.turn {p : PV} {w : World} {S : Nat → Prop} {k : Nat} (h : p.rd w S k) : p.turn.rd w S k := ⟨h.2, h.1⟩
/-- the cells of a place that lies in a box -/
theorem PV.at_ {p : PV} {W : World} {b : Nat} {t : TypeId} {fr : Nat × Nat} (h : W.heap[b]? = some (.cells p.cells.toArray t fr)) :
    W.cell? ⟨b, 0, none⟩ = some (.bool p.x.nu.p) ∧ W.cell? ⟨b, 1, none⟩ = some (.slice p.x.nu.A p.x.nu.n p.x.nu.c) ∧ W.cell? ⟨b, 2, none⟩ = some (.bool p.x.de.p) ∧ W.cell? ⟨b, 3, none⟩ = some (.slice p.x.de.A p.x.de.n p.x.de.c) ∧
    W.cell? ⟨b, 4, none⟩ = some (.bool p.y.nu.p) ∧ W.cell? ⟨b, 5, none⟩ = some (.slice p.y.nu.A p.y.nu.n p.y.nu.c) ∧ W.cell? ⟨b, 6, none⟩ = some (.bool p.y.de.p) ∧ W.cell? ⟨b, 7, none⟩ = some (.slice p.y.de.A p.y.de.n p.y.de.c) := by
  refine ⟨?_, ?_, ?_, ?_, ?_, ?_, ?_, ?_⟩ <;> (rw [cell_of_row _ _ _ _ _ _ h]; rfl)

set_option maxRecDepth 100000 in
set_option maxHeartbeats 2000000 in
theorem turn_any (p : PV) (w : World) {R : Ending → World → Prop} (hR : ∀ w', Grow w w' → R (.returned (.agg p.turn.cells.toArray)) w') :
    Calls Try.prog 82 #[.agg p.cells.toArray] w R := by
  have HR := Lib.hid hR
  clear hR
  obtain ⟨wa, hwa⟩ : ∃ wa, wa = (w.alloc (.cells p.cells.toArray 37)).alloc (.cells zeroPV.cells.toArray 37) := ⟨_, rfl⟩
  have GA : Hid (Grow w wa) := by subst hwa; exact ((Grow.refl w).al _).al _
  have FP : Hid (wa.heap[w.heap.size]? = some (.cells p.cells.toArray 37 (0, 0))) := by
    subst hwa
    exact blk_al w _ _ ((Grow.refl _).al _)
  have F0 : Hid (wa.heap[w.heap.size + 1]? = some (.cells zeroPV.cells.toArray 37 (0, 0))) := by
    subst hwa
    have := blk_al (w.alloc (.cells p.cells.toArray 37)) zeroPV.cells.toArray 37 (Grow.refl _)
    rwa [World.size_alloc] at this
  obtain ⟨z0, z1, z2, z3, z4, z5, z6, z7⟩ := PV.at_ FP.out
  go_enter Try.func82, Try.ntmps82
  go_upto_region 1 with fail
  rw [show (w.alloc (.cells p.cells.toArray 37)).alloc (.cells #[.bool false, .slice none 0 0, .bool false, .slice none 0 0, .bool false, .slice none 0 0, .bool false, .slice none 0 0] 37) = wa from hwa.symm]
  clear hwa
  go_wp2_with (refine wpList_store_row rfl 37 _ _ rfl (w.heap.size + 1) p.turn.cells.toArray rfl rfl 37 _ F0.out (by kernel_rfl) rfl (PV.one _) ?_)
  refine bodyPost_ret (v := .agg p.turn.cells.toArray) ?_ rfl (HR.out _ (GA.out.row (by omega) _))
  exact results_cell_row rfl _ _ (w.heap.size + 1) _ _ _ _ rfl (setRow_heap _ _ _ _ _ _ F0.out) Try.underlying37 rfl (by kernel_rfl)

def inQ (x : Rat) (c : Int) (ab : Bool) : Bool := if ab = true then decide ((c : Rat) ≤ x) else decide (x ≤ (c : Rat))
theorem inQ_cmp (x : Rat) (c : Int) (ab : Bool) : ((cmpR x c == 0) || (decide (0 < cmpR x c) == ab)) = inQ x c ab := by
  have e0 : (cmpR x c == 0) = decide (x = c) := by rw [Bool.eq_iff_iff, beq_iff_eq, cmpR_eq, decide_eq_true_eq]
  have e1 : decide (0 < cmpR x c) = decide ((c : Rat) < x) := by rw [decide_eq_decide, cmpR_gt]
  rw [e0, e1]
  unfold inQ
  cases ab with
  | true =>
    rw [if_pos rfl, Bool.eq_iff_iff]
    simp only [Bool.or_eq_true, decide_eq_true_eq, beq_iff_eq]
    grind
  | false =>
    rw [if_neg (by decide), Bool.eq_iff_iff]
    simp only [Bool.or_eq_true, decide_eq_true_eq, beq_iff_eq, decide_eq_false_iff_not]
    grind

set_option maxRecDepth 100000 in
set_option maxHeartbeats 2000000 in
theorem in25_any (p : PV) (c : Int) (ab : Bool) (k : Nat) (S : Nat → Prop) (w : World) (hp : p.rd w S k) (hk : k ≤ 10000) (hc : I64 c) {R : Ending → World → Prop} (hR : ∀ w', Grow w w' → R (.returned (.bool (inQ p.q.x c ab))) w') :
    Calls Try.prog 83 #[.agg p.cells.toArray, .int .i64 c, .bool ab] w R := by
  rw [← inQ_cmp] at hR
  have HR := Lib.hid hR
  clear hR
  have HP := Lib.hid hp.1
  have HK := Lib.hid (And.intro hk hc)
  clear hp hk hc
  have GA : Hid (Grow w (w.alloc (.cells p.cells.toArray 37))) := (Grow.refl w).al _
  have FP : Hid ((w.alloc (.cells p.cells.toArray 37)).heap[w.heap.size]? = some (.cells p.cells.toArray 37 (0, 0))) := blk_al w _ _ (Grow.refl _)
  go_enter Try.func83, Try.ntmps83
  go_upto_region 1 with fail
  generalize w.alloc (.cells p.cells.toArray 37) = wa at *
  have GW := Lib.hid GA.out.dr
  have FP := Lib.hid (grow_blk (Grow.refl wa).dr FP.out)
  refine wp_region_lexT (Grow wa.drew) ((Grow.refl _)) 4 [0, 1, 2, 3] (by kernel_rfl) (by kernel_rfl) (by intro c a d v w h; cases d <;> exact h) ?_
  iterate 3 (apply lext_take; exact rfl; exact rfl; (intro W hW; obtain ⟨z0, z1, z2, z3, -⟩ := PV.at_ (grow_blk hW FP.out); (try clear hW); go_simp; with_reducible rfl); try simp only [Act.put, List.setIfInBounds_toArray, List.set_cons_zero, List.set_cons_succ])
  generalize wa.drew = wb at *
  apply lext_turn; exact rfl; exact rfl; exact rfl; intro K hK; go_simp; go_at_call 26; refine whole_q c _ HK.out.2 ?_; intro r w1 hg1 hq hr
  have G1 := Lib.hid (GW.out.tr hg1)
  have QR := Lib.hid hq
  have RR := Lib.hid hr
  refine hK.out _ _ hg1 ?_
  clear hK hg1 hq hr
  try simp only [Act.put, List.setIfInBounds_toArray, List.set_cons_zero, List.set_cons_succ]
  refine lext_nil ?_
  simp only [List.drop_succ_cons, List.drop_zero]
  go_wp2_with fail
  go_at_call 29
  refine order_q p.x r k 4 _ _ w1 (HP.out.gr G1.out) RR.out HK.out.1 (by omega) ?_
  intro w2 hg2
  have G2 := Lib.hid (G1.out.tr hg2)
  clear hg2
  rw [QR.out]
  have HR2 := HR.out
  unfold PV.q at HR2
  dsimp only at HR2
  have HR := Lib.hid HR2
  clear HR2
  generalize cmpR p.x.q c = m at *
  obtain ⟨b0, hb0⟩ : ∃ b, (m == 0) = b := ⟨_, rfl⟩
  obtain ⟨b1, hb1⟩ : ∃ b, decide (0 < m) = b := ⟨_, rfl⟩
  rw [hb0, hb1] at HR
  cases b0 with
  | true =>
    go_wp2
    exact HR.out _ G2.out
  | false =>
    go_wp2
    exact HR.out _ G2.out

def crossQ (p q : PtQ) (c : Int) : PtQ := ⟨(c : Rat), p.y + ((c : Rat) - p.x) / (q.x - p.x) * (q.y - p.y)⟩
set_option maxRecDepth 100000 in
set_option maxHeartbeats 4000000 in
theorem cross25_any (p q : PV) (c : Int) (k : Nat) (S : Nat → Prop) (w : World) (hp : p.rd w S k) (hq : q.rd w S k) (hk : k ≤ 1500) (hc : I64 c) (hne : p.q.x ≠ q.q.x) {R : Ending → World → Prop}
    (hR : ∀ (r : PV) w', Grow w w' → r.q = crossQ p.q q.q c → r.rd w' (fun b => w.heap.size ≤ b) (6 * k + 8) → R (.returned (.agg r.cells.toArray)) w') :
    Calls Try.prog 84 #[.agg p.cells.toArray, .agg q.cells.toArray, .int .i64 c] w R := by
  have HR := Lib.hid hR
  clear hR
  have HP := Lib.hid hp
  have HQ := Lib.hid hq
  have HK := Lib.hid (And.intro hk hc)
  have NE := Lib.hid hne
  clear hp hq hk hc hne
  obtain ⟨wa, hwa⟩ : ∃ wa, wa = ((w.alloc (.cells p.cells.toArray 37)).alloc (.cells q.cells.toArray 37)).alloc (.cells zeroPV.cells.toArray 37) := ⟨_, rfl⟩
  have GA : Hid (Grow w wa) := by subst hwa; exact (((Grow.refl w).al _).al _).al _
  have FP : Hid (wa.heap[w.heap.size]? = some (.cells p.cells.toArray 37 (0, 0))) := by
    subst hwa
    exact blk_al w _ _ (((Grow.refl _).al _).al _)
  have FQ : Hid (wa.heap[w.heap.size + 1]? = some (.cells q.cells.toArray 37 (0, 0))) := by
    subst hwa
    have := blk_al (w.alloc (.cells p.cells.toArray 37)) q.cells.toArray 37 ((Grow.refl _).al (.cells zeroPV.cells.toArray 37))
    rwa [World.size_alloc] at this
  have F0 : Hid (wa.heap[w.heap.size + 1 + 1]? = some (.cells zeroPV.cells.toArray 37 (0, 0))) := by
    subst hwa
    have := blk_al ((w.alloc (.cells p.cells.toArray 37)).alloc (.cells q.cells.toArray 37)) zeroPV.cells.toArray 37 (Grow.refl _)
    rwa [World.size_alloc, World.size_alloc] at this
  go_enter Try.func84, Try.ntmps84
  go_upto_region 1 with fail
  rw [show ((w.alloc (.cells p.cells.toArray 37)).alloc (.cells q.cells.toArray 37)).alloc (.cells #[.bool false, .slice none 0 0, .bool false, .slice none 0 0, .bool false, .slice none 0 0, .bool false, .slice none 0 0] 37) = wa from hwa.symm]
  clear hwa
  refine wp_region_free1 ⟨11, some 7, 35, zeroRV.cells.toArray⟩ 12 [0, 2, 3, 5, 6, 7, 8, 1, 4, 9, 10] (by kernel_rfl) (by kernel_rfl) ⟨_, rfl, rfl, rfl, fun a W K h => by go_simp; exact h⟩ (by intro c a d v w h; cases d <;> exact h) rfl ?_
  have GW := Lib.hid GA.out.dr
  have FP := Lib.hid (grow_blk (Grow.refl wa).dr FP.out)
  have FQ := Lib.hid (grow_blk (Grow.refl wa).dr FQ.out)
  have F0 := Lib.hid (grow_blk (Grow.refl wa).dr F0.out)
  have GB : Hid (Grow wa.drew wa.drew) := Grow.refl _
  have EW : Hid (wa.drew.heap.size = wa.heap.size) := rfl
  generalize wa.drew = wb at *
  iterate 7
    apply fr1_take; exact rfl; (simp); (intro x1; exact rfl)
    · intro x1 W' hW
      obtain ⟨z0, z1, z2, z3, -⟩ := PV.at_ (grow_blk hW FP.out)
      obtain ⟨y0, y1, y2, y3, -⟩ := PV.at_ (grow_blk hW FQ.out)
      clear hW
      simp only [Act.put, List.setIfInBounds_toArray, List.set_cons_zero, List.set_cons_succ]
      go_simp
      with_reducible rfl
    simp only [Act.put, List.setIfInBounds_toArray, List.set_cons_zero, List.set_cons_succ]
  apply fr1_turn; exact rfl; exact rfl; (simp); (intro x1; exact rfl)
  intro x1 W5 hW K hK
  simp only [Act.put, List.setIfInBounds_toArray, List.set_cons_zero, List.set_cons_succ]
  go_simp
  go_at_call 26
  refine whole_q c _ HK.out.2 ?_
  intro rc w1 hg hq1 hr1
  have RC := Lib.hid hr1
  have QC := Lib.hid hq1
  clear hq1 hr1
  have GB := Lib.hid (GB.out.tr (hW.tr hg))
  refine hK.out _ _ hg ?_
  clear hK hW hg
  simp only [Act.put, List.setIfInBounds_toArray, List.set_cons_zero, List.set_cons_succ]
  apply fr1_turn; exact rfl; exact rfl; (simp); (intro x1; exact rfl)
  intro x1 W5 hW K hK
  simp only [Act.put, List.setIfInBounds_toArray, List.set_cons_zero, List.set_cons_succ]
  go_simp
  go_at_call 94
  refine minus_q rc p.x 4 k _ _ W5 (RC.out.gr hW) (HP.out.1.gr (GW.out.tr (GB.out.tr hW))) (by omega) (by have := HK.out.1; omega) ?_
  intro rd w2 hg hq2 hr2
  have RD := Lib.hid hr2
  have QD := Lib.hid hq2
  clear hq2 hr2 RC
  have GB := Lib.hid (GB.out.tr (hW.tr hg))
  refine hK.out _ _ hg ?_
  clear hK hW hg
  simp only [Act.put, List.setIfInBounds_toArray, List.set_cons_zero, List.set_cons_succ]
  apply fr1_turn; exact rfl; exact rfl; (simp); (intro x1; exact rfl)
  intro x1 W5 hW K hK
  simp only [Act.put, List.setIfInBounds_toArray, List.set_cons_zero, List.set_cons_succ]
  go_simp
  go_at_call 94
  refine minus_q q.x p.x k k _ _ W5 (HQ.out.1.gr (GW.out.tr (GB.out.tr hW))) (HP.out.1.gr (GW.out.tr (GB.out.tr hW))) (by have := HK.out.1; omega) (by have := HK.out.1; omega) ?_
  intro re w3 hg hq3 hr3
  have RD := Lib.hid (RD.out.gr (hW.tr hg))
  have RE := Lib.hid hr3
  have QE := Lib.hid hq3
  clear hq3 hr3
  have GB := Lib.hid (GB.out.tr (hW.tr hg))
  refine hK.out _ _ hg ?_
  clear hK hW hg
  simp only [Act.put, List.setIfInBounds_toArray, List.set_cons_zero, List.set_cons_succ]
  have NZ : Hid (re.q ≠ 0) := by
    show _ ≠ _
    rw [QE.out]
    have := NE.out
    unfold PV.q at this
    dsimp only at this
    grind
  apply fr1_turn; exact rfl; exact rfl; (simp); (intro x1; exact rfl)
  intro x1 W5 hW K hK
  simp only [Act.put, List.setIfInBounds_toArray, List.set_cons_zero, List.set_cons_succ]
  go_simp
  go_at_call 101
  refine over_q rd re (4 + k + 1) (k + k + 1) _ _ W5 (RD.out.gr hW) (RE.out.gr hW) (by have := HK.out.1; omega) (by have := HK.out.1; omega) NZ.out ?_
  intro rt w4 hg hq4 hr4
  have LT : Hid (wb.heap.size ≤ W5.heap.size) := (GB.out.tr hW).size
  have RTT := Lib.hid (hr4.into (T := fun b => wb.heap.size ≤ b) fun b hb => by have := LT.out; omega)
  have QT := Lib.hid hq4
  clear hq4 hr4 RD RE NZ LT
  have GB := Lib.hid (GB.out.tr (hW.tr hg))
  refine hK.out _ _ hg ?_
  clear hK hW hg
  simp only [Act.put, List.setIfInBounds_toArray, List.set_cons_zero, List.set_cons_succ]
  refine fr1_nil ?_
  intro tb V hV hb
  have RTT := Lib.hid (RTT.out.gr hV)
  have GV := Lib.hid (GB.out.tr hV)
  have FT : Hid (V.heap[tb]? = some (.cells zeroRV.cells.toArray 35 (0, 0))) := hb.1
  have LB : Hid (wb.heap.size ≤ tb) := by show _ ≤ _; rw [EW.out]; exact hb.2.1
  clear hV hb GB
  unfold ptrTo
  simp only [Act.put, List.setIfInBounds_toArray, List.set_cons_zero, List.set_cons_succ, List.drop_succ_cons, List.drop_zero]
  have RTN : Hid (rt.rd (V.setRow tb rt.cells.toArray) (fun b => w.heap.size ≤ b) (3 * k + 6)) := (((RTT.out.into (T := fun b => w.heap.size ≤ b) fun b hb => by have := GW.out.size; omega).row ⟨_, _, _, FT.out, RV.noint _⟩ _)).up (by omega)
  have GN : Hid (Grow wb (V.setRow tb rt.cells.toArray)) := GV.out.row LB.out _
  have FTN : Hid ((V.setRow tb rt.cells.toArray).heap[tb]? = some (.cells rt.cells.toArray 35 (0, 0))) := setRow_heap _ _ _ _ _ _ FT.out
  go_upto_region 2 with (refine wpList_store_row rfl 35 _ _ rfl tb rt.cells.toArray rfl rfl 35 _ FT.out (by kernel_rfl) rfl (RV.one _) ?_)
  generalize V.setRow tb rt.cells.toArray = w5 at *
  have GD := Lib.hid ((Grow.refl w5).dr)
  have FT := Lib.hid (grow_blk GD.out FTN.out)
  have RTN := Lib.hid (RTN.out.gr GD.out)
  have GN := Lib.hid (GN.out.tr GD.out)
  have FP := Lib.hid (grow_blk GN.out FP.out)
  have FQ := Lib.hid (grow_blk GN.out FQ.out)
  have F0 := Lib.hid (grow_blk GN.out F0.out)
  have GW := Lib.hid (GW.out.tr GN.out)
  clear FTN RTT GD GV LB EW
  refine wp_region_lexT (Grow w5.drew) ((Grow.refl _)) 11 [0, 2, 3, 4, 5, 6, 7, 8, 1, 9, 10] (by kernel_rfl) (by kernel_rfl) (by intro c a d v w h; cases d <;> exact h) ?_
  iterate 3 (apply lext_take; exact rfl; exact rfl; (intro W hW; obtain ⟨-, -, -, -, z4, z5, z6, z7⟩ := PV.at_ (grow_blk hW FP.out); obtain ⟨-, -, -, -, y4, y5, y6, y7⟩ := PV.at_ (grow_blk hW FQ.out); (try clear hW); go_simp; with_reducible rfl); try simp only [Act.put, List.setIfInBounds_toArray, List.set_cons_zero, List.set_cons_succ])
  apply lext_take; exact rfl; exact rfl; (intro W hW; exact exec_load_row 35 _ rfl tb rfl 35 _ _ _ (grow_blk hW FT.out) rfl Try.underlying35 (by kernel_rfl))
  try simp only [Act.put, List.setIfInBounds_toArray, List.set_cons_zero, List.set_cons_succ]
  iterate 4 (apply lext_take; exact rfl; exact rfl; (intro W hW; obtain ⟨-, -, -, -, z4, z5, z6, z7⟩ := PV.at_ (grow_blk hW FP.out); obtain ⟨-, -, -, -, y4, y5, y6, y7⟩ := PV.at_ (grow_blk hW FQ.out); (try clear hW); go_simp; with_reducible rfl); try simp only [Act.put, List.setIfInBounds_toArray, List.set_cons_zero, List.set_cons_succ])
  generalize w5.drew = w6 at *
  clear FP FQ FT
  apply lext_turn; exact rfl; exact rfl; exact rfl; intro K hK; go_simp; go_at_call 26; refine whole_q c _ HK.out.2 ?_; intro rf w7 hg7 hq7 hr7
  have RF := Lib.hid hr7
  have QF := Lib.hid hq7
  have G7 := Lib.hid hg7
  have LS7 : Hid (w.heap.size ≤ w6.heap.size) := GW.out.size
  refine hK.out _ _ hg7 ?_
  clear hK hg7 hq7 hr7
  try simp only [Act.put, List.setIfInBounds_toArray, List.set_cons_zero, List.set_cons_succ]
  apply lext_turn; exact rfl; exact rfl; exact rfl; intro K hK; go_simp; go_at_call 94; refine minus_q q.y p.y k k _ _ w7 (HQ.out.2.gr (GW.out.tr G7.out)) (HP.out.2.gr (GW.out.tr G7.out)) (by have := HK.out.1; omega) (by have := HK.out.1; omega) ?_; intro rg w8 hg8 hq8 hr8
  have G8 := Lib.hid (G7.out.tr hg8)
  have RF := Lib.hid (RF.out.gr hg8)
  have RG := Lib.hid hr8
  have QG := Lib.hid hq8
  refine hK.out _ _ G8.out ?_
  clear hK hg8 hq8 hr8
  try simp only [Act.put, List.setIfInBounds_toArray, List.set_cons_zero, List.set_cons_succ]
  apply lext_turn; exact rfl; exact rfl; exact rfl; intro K hK; go_simp; go_at_call 78; refine times_q rt rg (3 * k + 6) (k + k + 1) _ _ w8 (RTN.out.gr G8.out) RG.out (by have := HK.out.1; omega) (by have := HK.out.1; omega) ?_; intro rh w9 hg9 hq9 hr9
  have G9 := Lib.hid (G8.out.tr hg9)
  have RF := Lib.hid (RF.out.gr hg9)
  have RH := Lib.hid hr9
  have QH := Lib.hid hq9
  refine hK.out _ _ G9.out ?_
  clear hK hg9 hq9 hr9
  try simp only [Act.put, List.setIfInBounds_toArray, List.set_cons_zero, List.set_cons_succ]
  refine lext_nil ?_
  simp only [List.drop_succ_cons, List.drop_zero]
  go_wp2_with fail
  go_at_call 77
  refine plus_q p.y rh k (3 * k + 6 + (k + k + 1)) _ _ w9 (HP.out.2.gr (GW.out.tr G9.out)) RH.out (by have := HK.out.1; omega) (by have := HK.out.1; omega) ?_
  intro ri wx hgx hqx hrx
  have GX := Lib.hid (G9.out.tr hgx)
  have LS9 : Hid (w.heap.size ≤ w9.heap.size) := (GW.out.tr G9.out).size
  have RF := Lib.hid (((RF.out.gr hgx).into (T := fun b => w.heap.size ≤ b) fun b hb => by have := LS7.out; omega).up (k' := 6 * k + 8) (by omega))
  have RI := Lib.hid ((hrx.into (T := fun b => w.heap.size ≤ b) fun b hb => by have := LS9.out; omega).up (k' := 6 * k + 8) (by omega))
  have QI := Lib.hid hqx
  have F0 := Lib.hid (grow_blk GX.out F0.out)
  have GW := Lib.hid (GW.out.tr GX.out)
  clear hgx hqx hrx G7 G8 G9 GX LS7 LS9 RG RH RTN GN
  obtain ⟨⟨f1, f2, f3, f4⟩, ⟨f5, f6, f7, f8⟩, fq⟩ := rf
  obtain ⟨⟨i1, i2, i3, i4⟩, ⟨i5, i6, i7, i8⟩, iq⟩ := ri
  unfold RV.cells
  dsimp only at QF QI ⊢
  have BN : BoxN wx (w.heap.size + 1 + 1) := ⟨_, _, _, F0.out, PV.noint _⟩
  go_wp2_with (refine wpList_store_row rfl 37 _ _ rfl (w.heap.size + 1 + 1) (⟨(⟨⟨f1, f2, f3, f4⟩, ⟨f5, f6, f7, f8⟩, fq⟩ : RV), (⟨⟨i1, i2, i3, i4⟩, ⟨i5, i6, i7, i8⟩, iq⟩ : RV)⟩ : PV).cells.toArray rfl rfl 37 _ F0.out (by kernel_rfl) rfl (PV.one _) ?_)
  refine bodyPost_ret (v := .agg (⟨(⟨⟨f1, f2, f3, f4⟩, ⟨f5, f6, f7, f8⟩, fq⟩ : RV), (⟨⟨i1, i2, i3, i4⟩, ⟨i5, i6, i7, i8⟩, iq⟩ : RV)⟩ : PV).cells.toArray) ?_ rfl (HR.out ⟨(⟨⟨f1, f2, f3, f4⟩, ⟨f5, f6, f7, f8⟩, fq⟩ : RV), (⟨⟨i1, i2, i3, i4⟩, ⟨i5, i6, i7, i8⟩, iq⟩ : RV)⟩ _ (GW.out.row (by omega) _) ?_ ⟨RF.out.row BN _, RI.out.row BN _⟩)
  · exact results_cell_row rfl _ _ (w.heap.size + 1 + 1) _ _ _ _ rfl (setRow_heap _ _ _ _ _ _ F0.out) Try.underlying37 rfl (by kernel_rfl)
  · unfold crossQ PV.q
    dsimp only
    rw [QF.out, QI.out, QH.out, QT.out, QD.out, QE.out, QG.out, QC.out]
end Go.Proofs.Ytjcgkhcbdbbdkaa
