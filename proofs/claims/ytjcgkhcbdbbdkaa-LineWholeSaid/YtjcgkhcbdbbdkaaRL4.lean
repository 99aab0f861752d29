/-
  The reference's lines, fourth part: Segment.
-/
import Derived.Test.YtjcgkhcbdbbdkaaChecked
import Derived.Test.YtjcgkhcbdbbdkaaRow
import Derived.Deep.Cut
namespace Go.Proofs.Ytjcgkhcbdbbdkaa
open Go.RowKit Go.Lib B

theorem segBad_or (p q : Pt) (lo hi : Int) : segBad p q lo hi = (decide (hi < lo) || (p.far || (q.far || (!inw lo || !inw hi)))) := by
  unfold segBad Pt.far
  simp only [List.any_cons, List.any_nil, Bool.or_false, Bool.or_assoc]

set_option maxRecDepth 100000 in
set_option maxHeartbeats 16000000 in
theorem segment_q (p q : Pt) (lo hi : Int) (w : World) (hp : p.ok) (hq : q.ok) (hlo : I64 lo) (hhi : I64 hi) {R : Ending → World → Prop}
    (hR : ∀ (a b : PV) ok w', Grow w w' → (segQ p q lo hi).2.2 = ok → (ok = true → a.q = (segQ p q lo hi).1 ∧ b.q = (segQ p q lo hi).2.1 ∧ a.rd w' (fun x => w.heap.size ≤ x) 15 ∧ b.rd w' (fun x => w.heap.size ≤ x) 15) → R (.returned (.tuple #[.agg a.cells.toArray, .agg b.cells.toArray, .bool ok])) w') :
    Calls Try.prog 12 #[.agg p.cells.toArray, .agg q.cells.toArray, .int .i64 lo, .int .i64 hi] w R := by
  have HR := Lib.hid hR
  clear hR
  have HS : Hid (segBad p q lo hi = (decide (hi < lo) || (p.far || (q.far || (!inw lo || !inw hi))))) := segBad_or p q lo hi
  have FPF := Lib.hid fun W (R : Ending → World → Prop) hR => pfar_any p W (R := R) hR
  have FQF := Lib.hid fun W (R : Ending → World → Prop) hR => pfar_any q W (R := R) hR
  have FLF := Lib.hid fun W (R : Ending → World → Prop) hR => far_any lo W (R := R) hR
  have FHF := Lib.hid fun W (R : Ending → World → Prop) hR => far_any hi W (R := R) hR
  obtain ⟨b0, hb0⟩ : ∃ b, decide (hi < lo) = b := ⟨_, rfl⟩
  obtain ⟨b1, hb1⟩ : ∃ b, p.far = b := ⟨_, rfl⟩
  obtain ⟨b2, hb2⟩ : ∃ b, q.far = b := ⟨_, rfl⟩
  obtain ⟨b3, hb3⟩ : ∃ b, (!inw lo) = b := ⟨_, rfl⟩
  obtain ⟨b4, hb4⟩ : ∃ b, (!inw hi) = b := ⟨_, rfl⟩
  rw [hb0, hb1, hb2, hb3, hb4] at HS
  rw [hb1] at FPF
  rw [hb2] at FQF
  rw [hb3] at FLF
  rw [hb4] at FHF
  clear hb1 hb2 hb3 hb4
  obtain ⟨px, py⟩ := p
  obtain ⟨qx, qy⟩ := q
  have HP : Hid (I64 px ∧ I64 py ∧ I64 qx ∧ I64 qy ∧ I64 lo ∧ I64 hi) := ⟨hp.1, hp.2, hq.1, hq.2, hlo, hhi⟩
  have HPO := Lib.hid (And.intro hp hq)
  clear hp hq hlo hhi
  unfold Pt.cells at *
  dsimp only at FPF FQF ⊢
  obtain ⟨wa, hwa⟩ : ∃ wa, wa = (((w.alloc (.cells #[.int .i64 px, .int .i64 py] 23)).alloc (.cells #[.int .i64 qx, .int .i64 qy] 23)).alloc (.cells zeroPV.cells.toArray 37)).alloc (.cells zeroPV.cells.toArray 37) := ⟨_, rfl⟩
  have GA : Hid (Grow w wa) := by subst hwa; exact ((((Grow.refl w).al _).al _).al _).al _
  have FP : Hid (wa.heap[w.heap.size]? = some (.cells #[.int .i64 px, .int .i64 py] 23 (0, 0))) := by
    subst hwa
    exact blk_al w _ _ ((((Grow.refl _).al _).al _).al _)
  have FQ : Hid (wa.heap[w.heap.size + 1]? = some (.cells #[.int .i64 qx, .int .i64 qy] 23 (0, 0))) := by
    subst hwa
    have := blk_al (w.alloc (.cells #[.int .i64 px, .int .i64 py] 23)) #[.int .i64 qx, .int .i64 qy] 23 (((Grow.refl _).al (.cells zeroPV.cells.toArray 37)).al (.cells zeroPV.cells.toArray 37))
    rwa [World.size_alloc] at this
  have F0 : Hid (wa.heap[w.heap.size + 1 + 1]? = some (.cells zeroPV.cells.toArray 37 (0, 0))) := by
    subst hwa
    have := blk_al ((w.alloc (.cells #[.int .i64 px, .int .i64 py] 23)).alloc (.cells #[.int .i64 qx, .int .i64 qy] 23)) zeroPV.cells.toArray 37 ((Grow.refl _).al (.cells zeroPV.cells.toArray 37))
    rwa [World.size_alloc, World.size_alloc] at this
  have F1 : Hid (wa.heap[w.heap.size + 1 + 1 + 1]? = some (.cells zeroPV.cells.toArray 37 (0, 0))) := by
    subst hwa
    have := blk_al (((w.alloc (.cells #[.int .i64 px, .int .i64 py] 23)).alloc (.cells #[.int .i64 qx, .int .i64 qy] 23)).alloc (.cells zeroPV.cells.toArray 37)) zeroPV.cells.toArray 37 (Grow.refl _)
    rwa [World.size_alloc, World.size_alloc, World.size_alloc] at this
  have SZ : Hid (wa.heap.size = w.heap.size + 4) := by
    subst hwa
    show _ = _
    simp only [World.size_alloc]
  obtain ⟨bp, hbp⟩ : ∃ x, x = w.heap.size := ⟨_, rfl⟩
  obtain ⟨bq, hbq⟩ : ∃ x, x = w.heap.size + 1 := ⟨_, rfl⟩
  obtain ⟨r0, hr0⟩ : ∃ x, x = w.heap.size + 1 + 1 := ⟨_, rfl⟩
  obtain ⟨r1, hr1⟩ : ∃ x, x = w.heap.size + 1 + 1 + 1 := ⟨_, rfl⟩
  have NN : Hid (r0 ≠ r1 ∧ r1 ≠ r0) := ⟨by omega, by omega⟩
  have LE : Hid (w.heap.size ≤ r0 ∧ w.heap.size ≤ r1) := ⟨by omega, by omega⟩
  rw [← hbp] at FP
  rw [← hbq] at FQ
  rw [← hr0] at F0
  rw [← hr1] at F1
  have z0 := cell_of_row _ bp 0 _ _ (0, 0) FP.out
  have z1 := cell_of_row _ bp 1 _ _ (0, 0) FP.out
  cases b0 with
  | true =>
    have HV : Hid ((segQ ⟨px, py⟩ ⟨qx, qy⟩ lo hi).2.2 = false) := by
      show _ = _
      have h := HS.out
      have hb : segBad ⟨px, py⟩ ⟨qx, qy⟩ lo hi = true := by rw [h]; rfl
      unfold segQ
      rw [if_pos hb]
    go_enter Try.func12, Try.ntmps12
    go_wp2_with fail
    rw [show (((w.alloc (.cells #[.int .i64 px, .int .i64 py] 23)).alloc (.cells #[.int .i64 qx, .int .i64 qy] 23)).alloc (.cells #[.bool false, .slice none 0 0, .bool false, .slice none 0 0, .bool false, .slice none 0 0, .bool false, .slice none 0 0] 37)).alloc (.cells #[.bool false, .slice none 0 0, .bool false, .slice none 0 0, .bool false, .slice none 0 0, .bool false, .slice none 0 0] 37) = wa from hwa.symm]
    clear hwa
    rw [← hr1, ← hr0, ← hbq, ← hbp]
    clear hr0 hr1 hbq hbp
    refine bodyPost_ret (v := .tuple #[.agg zeroPV.cells.toArray, .agg zeroPV.cells.toArray, .bool false]) ?_ rfl ?_
    · exact results_ccs rfl _ _ r0 r1 _ _ _ _ _ _ _ _ rfl F0.out rfl F1.out rfl rfl rfl Try.underlying37 (by kernel_rfl) Try.underlying37 (by kernel_rfl)
    · exact HR.out zeroPV zeroPV false _ GA.out HV.out (fun h => by cases h)
  | false =>
    go_enter Try.func12, Try.ntmps12
    go_wp2_with fail
    rw [show (((w.alloc (.cells #[.int .i64 px, .int .i64 py] 23)).alloc (.cells #[.int .i64 qx, .int .i64 qy] 23)).alloc (.cells #[.bool false, .slice none 0 0, .bool false, .slice none 0 0, .bool false, .slice none 0 0, .bool false, .slice none 0 0] 37)).alloc (.cells #[.bool false, .slice none 0 0, .bool false, .slice none 0 0, .bool false, .slice none 0 0, .bool false, .slice none 0 0] 37) = wa from hwa.symm]
    clear hwa
    rw [← hr1, ← hr0, ← hbq, ← hbp]
    clear hr0 hr1 hbq hbp
    go_wp2_with fail
    go_at_call 36
    refine FPF.out _ _ ?_
    intro w1 hg1
    have FP := Lib.hid (grow_blk hg1 FP.out)
    have FQ := Lib.hid (grow_blk hg1 FQ.out)
    have F0 := Lib.hid (grow_blk hg1 F0.out)
    have F1 := Lib.hid (grow_blk hg1 F1.out)
    have GW := Lib.hid (GA.out.tr hg1)
    clear hg1 z0 z1 GA FPF SZ
    cases b1 with
    | true =>
      have HV : Hid ((segQ ⟨px, py⟩ ⟨qx, qy⟩ lo hi).2.2 = false) := by
        show _ = _
        have h := HS.out
        have hb : segBad ⟨px, py⟩ ⟨qx, qy⟩ lo hi = true := by rw [h]; rfl
        unfold segQ
        rw [if_pos hb]
      have H1 := Lib.hid ((setRow_other w1 r0 r1 zeroPV.cells.toArray NN.out.2).trans F1.out)
      go_wp2_with (first | (refine wpList_store_row rfl 37 _ _ rfl r0 zeroPV.cells.toArray rfl rfl 37 _ F0.out (by kernel_rfl) rfl (PV.one _) ?_) | (refine wpList_store_row rfl 37 _ _ rfl r1 zeroPV.cells.toArray rfl rfl 37 _ H1.out (by kernel_rfl) rfl (PV.one _) ?_))
      refine bodyPost_ret (v := .tuple #[.agg zeroPV.cells.toArray, .agg zeroPV.cells.toArray, .bool false]) ?_ rfl ?_
      · exact results_ccs rfl _ _ r0 r1 _ _ _ _ _ _ _ _ rfl ((setRow_other _ r1 r0 _ NN.out.1).trans (setRow_heap _ r0 _ _ _ _ F0.out)) rfl (setRow_heap _ r1 _ _ _ _ H1.out) rfl rfl rfl Try.underlying37 (by kernel_rfl) Try.underlying37 (by kernel_rfl)
      · exact HR.out zeroPV zeroPV false _ ((GW.out.row LE.out.1 _).row LE.out.2 _) HV.out (fun h => by cases h)
    | false =>
      have z0 := cell_of_row _ bq 0 _ _ (0, 0) FQ.out
      have z1 := cell_of_row _ bq 1 _ _ (0, 0) FQ.out
      go_wp2_with fail
      go_at_call 36
      refine FQF.out _ _ ?_
      intro w2 hg2
      have FP := Lib.hid (grow_blk hg2 FP.out)
      have FQ := Lib.hid (grow_blk hg2 FQ.out)
      have F0 := Lib.hid (grow_blk hg2 F0.out)
      have F1 := Lib.hid (grow_blk hg2 F1.out)
      have GW := Lib.hid (GW.out.tr hg2)
      clear hg2 z0 z1 FQF
      cases b2 with
      | true =>
        have HV : Hid ((segQ ⟨px, py⟩ ⟨qx, qy⟩ lo hi).2.2 = false) := by
          show _ = _
          have h := HS.out
          have hb : segBad ⟨px, py⟩ ⟨qx, qy⟩ lo hi = true := by rw [h]; rfl
          unfold segQ
          rw [if_pos hb]
        have H1 := Lib.hid ((setRow_other w2 r0 r1 zeroPV.cells.toArray NN.out.2).trans F1.out)
        go_wp2_with (first | (refine wpList_store_row rfl 37 _ _ rfl r0 zeroPV.cells.toArray rfl rfl 37 _ F0.out (by kernel_rfl) rfl (PV.one _) ?_) | (refine wpList_store_row rfl 37 _ _ rfl r1 zeroPV.cells.toArray rfl rfl 37 _ H1.out (by kernel_rfl) rfl (PV.one _) ?_))
        refine bodyPost_ret (v := .tuple #[.agg zeroPV.cells.toArray, .agg zeroPV.cells.toArray, .bool false]) ?_ rfl ?_
        · exact results_ccs rfl _ _ r0 r1 _ _ _ _ _ _ _ _ rfl ((setRow_other _ r1 r0 _ NN.out.1).trans (setRow_heap _ r0 _ _ _ _ F0.out)) rfl (setRow_heap _ r1 _ _ _ _ H1.out) rfl rfl rfl Try.underlying37 (by kernel_rfl) Try.underlying37 (by kernel_rfl)
        · exact HR.out zeroPV zeroPV false _ ((GW.out.row LE.out.1 _).row LE.out.2 _) HV.out (fun h => by cases h)
      | false =>
        go_wp2_with fail
        go_at_call 43
        refine FLF.out _ _ ?_
        clear FLF
        cases b3 with
        | true =>
          have HV : Hid ((segQ ⟨px, py⟩ ⟨qx, qy⟩ lo hi).2.2 = false) := by
            show _ = _
            have h := HS.out
            have hb : segBad ⟨px, py⟩ ⟨qx, qy⟩ lo hi = true := by rw [h]; rfl
            unfold segQ
            rw [if_pos hb]
          have H1 := Lib.hid ((setRow_other w2 r0 r1 zeroPV.cells.toArray NN.out.2).trans F1.out)
          go_wp2_with (first | (refine wpList_store_row rfl 37 _ _ rfl r0 zeroPV.cells.toArray rfl rfl 37 _ F0.out (by kernel_rfl) rfl (PV.one _) ?_) | (refine wpList_store_row rfl 37 _ _ rfl r1 zeroPV.cells.toArray rfl rfl 37 _ H1.out (by kernel_rfl) rfl (PV.one _) ?_))
          refine bodyPost_ret (v := .tuple #[.agg zeroPV.cells.toArray, .agg zeroPV.cells.toArray, .bool false]) ?_ rfl ?_
          · exact results_ccs rfl _ _ r0 r1 _ _ _ _ _ _ _ _ rfl ((setRow_other _ r1 r0 _ NN.out.1).trans (setRow_heap _ r0 _ _ _ _ F0.out)) rfl (setRow_heap _ r1 _ _ _ _ H1.out) rfl rfl rfl Try.underlying37 (by kernel_rfl) Try.underlying37 (by kernel_rfl)
          · exact HR.out zeroPV zeroPV false _ ((GW.out.row LE.out.1 _).row LE.out.2 _) HV.out (fun h => by cases h)
        | false =>
          go_wp2_with fail
          go_at_call 43
          refine FHF.out _ _ ?_
          clear FHF
          cases b4 with
          | true =>
            have HV : Hid ((segQ ⟨px, py⟩ ⟨qx, qy⟩ lo hi).2.2 = false) := by
              show _ = _
              have h := HS.out
              have hb : segBad ⟨px, py⟩ ⟨qx, qy⟩ lo hi = true := by rw [h]; rfl
              unfold segQ
              rw [if_pos hb]
            have H1 := Lib.hid ((setRow_other w2 r0 r1 zeroPV.cells.toArray NN.out.2).trans F1.out)
            go_wp2_with (first | (refine wpList_store_row rfl 37 _ _ rfl r0 zeroPV.cells.toArray rfl rfl 37 _ F0.out (by kernel_rfl) rfl (PV.one _) ?_) | (refine wpList_store_row rfl 37 _ _ rfl r1 zeroPV.cells.toArray rfl rfl 37 _ H1.out (by kernel_rfl) rfl (PV.one _) ?_))
            refine bodyPost_ret (v := .tuple #[.agg zeroPV.cells.toArray, .agg zeroPV.cells.toArray, .bool false]) ?_ rfl ?_
            · exact results_ccs rfl _ _ r0 r1 _ _ _ _ _ _ _ _ rfl ((setRow_other _ r1 r0 _ NN.out.1).trans (setRow_heap _ r0 _ _ _ _ F0.out)) rfl (setRow_heap _ r1 _ _ _ _ H1.out) rfl rfl rfl Try.underlying37 (by kernel_rfl) Try.underlying37 (by kernel_rfl)
            · exact HR.out zeroPV zeroPV false _ ((GW.out.row LE.out.1 _).row LE.out.2 _) HV.out (fun h => by cases h)
          | false =>
            have NB : Hid (segBad ⟨px, py⟩ ⟨qx, qy⟩ lo hi = false) := by
              show _ = _
              rw [HS.out]
              rfl
            clear HS hb0
            go_wp2_with fail
            have GW0 := Lib.hid (GW.out.dr)
            have G0 := Lib.hid ((Grow.refl w2).dr)
            have FP := Lib.hid (grow_blk G0.out FP.out)
            have FQ := Lib.hid (grow_blk G0.out FQ.out)
            have F0 := Lib.hid (grow_blk G0.out F0.out)
            have F1 := Lib.hid (grow_blk G0.out F1.out)
            clear G0
            refine wp_region_freeS ⟨13, some 11, 35, zeroRV.cells.toArray⟩ ⟨14, some 12, 35, zeroRV.cells.toArray⟩ 17 [2, 3, 4, 5, 6, 7, 0, 1, 8, 9, 10, 11, 12] [15, 16] (by kernel_rfl) (by kernel_rfl) (by decide) ⟨_, rfl, rfl, rfl, fun a W K h => by go_simp; exact h⟩ ⟨_, rfl, rfl, rfl, fun a W K h => by go_simp; exact h⟩ (by intro c a d v w h; cases d <;> exact h) undef undef rfl rfl ?_
            generalize w2.drew = wb at *
            have LEB : Hid (w.heap.size ≤ wb.heap.size) := GW0.out.size
            iterate 6
              apply frs_take; exact rfl; (simp); (simp); (intro x1 x2; exact rfl)
              · intro x1 x2 W' hW
                have fp := grow_blk hW FP.out
                have fq := grow_blk hW FQ.out
                have z0 := cell_of_row _ _ 0 _ _ (0, 0) fp
                have z1 := cell_of_row _ _ 1 _ _ (0, 0) fp
                have y0 := cell_of_row _ _ 0 _ _ (0, 0) fq
                have y1 := cell_of_row _ _ 1 _ _ (0, 0) fq
                clear hW fp fq
                simp only [FA.put2, Act.put, List.setIfInBounds_toArray, List.set_cons_zero, List.set_cons_succ]
                go_simp
                with_reducible rfl
              simp only [Act.put, List.setIfInBounds_toArray, List.set_cons_zero, List.set_cons_succ]
            apply frs_turn; exact rfl; exact rfl; (simp); (simp); (intro x1 x2; exact rfl)
            intro x1 x2 W5 hW hJ K hK
            simp only [FA.put2, Act.put, List.setIfInBounds_toArray, List.set_cons_zero, List.set_cons_succ]
            go_simp
            go_at_call 26
            refine whole_q 0 _ ⟨by decide, by decide⟩ ?_
            intro ra w3 hg3 hqa hra
            have RA := Lib.hid ((hra.into (T := fun b => w.heap.size ≤ b) fun b hb => by have := LEB.out; have := hW.size; omega).up (k' := 5) (by omega))
            have QA := Lib.hid hqa
            refine hK.out _ _ (fun W => Grow w3 W) hg3 (fun _ _ g h => h.tr g) (Grow.refl _) ?_
            clear hK hW hg3 hqa hra hJ
            simp only [Act.put, List.setIfInBounds_toArray, List.set_cons_zero, List.set_cons_succ]
            apply frs_turn; exact rfl; exact rfl; (simp); (simp); (intro x1 x2; exact rfl)
            intro x1 x2 W5 hW hJ K hK
            simp only [FA.put2, Act.put, List.setIfInBounds_toArray, List.set_cons_zero, List.set_cons_succ]
            go_simp
            go_at_call 26
            refine whole_q 1 _ ⟨by decide, by decide⟩ ?_
            intro rb w4 hg4 hqb hrb
            have RA := Lib.hid (RA.out.gr (hJ.tr hg4))
            have RB := Lib.hid ((hrb.into (T := fun b => w.heap.size ≤ b) fun b hb => by have := LEB.out; have := hW.size; omega).up (k' := 5) (by omega))
            have QB := Lib.hid hqb
            refine hK.out _ _ (fun W => Grow w4 W) hg4 (fun _ _ g h => h.tr g) (Grow.refl _) ?_
            clear hK hW hg4 hqb hrb hJ
            simp only [Act.put, List.setIfInBounds_toArray, List.set_cons_zero, List.set_cons_succ]
            apply frs_turn; exact rfl; exact rfl; (simp); (simp); (intro x1 x2; exact rfl)
            intro x1 x2 W5 hW hJ K hK
            simp only [FA.put2, Act.put, List.setIfInBounds_toArray, List.set_cons_zero, List.set_cons_succ]
            go_simp
            go_at_call 44
            refine slab_q ra rb px qx lo hi 5 (fun b => w.heap.size ≤ b) _ (RA.out.gr hJ) (RB.out.gr hJ) (by omega) (by omega) HP.out.1 HP.out.2.2.1 HP.out.2.2.2.2.1 HP.out.2.2.2.2.2 ?_
            intro rc rd ok1 w5 hg5 hs hrc hrd
            have RC := Lib.hid (hrc.into (T := fun b => w.heap.size ≤ b) fun b hb => by have := LEB.out; have := hW.size; rcases hb with h | h <;> omega)
            have RD := Lib.hid (hrd.into (T := fun b => w.heap.size ≤ b) fun b hb => by have := LEB.out; have := hW.size; rcases hb with h | h <;> omega)
            have QS : Hid (slabQ 0 1 px qx lo hi = (rc.q, rd.q, ok1)) := by
              show _ = _
              have h := hs
              rw [QA.out, QB.out] at h
              exact h
            refine hK.out _ _ (fun W => Grow w5 W) hg5 (fun _ _ g h => h.tr g) (Grow.refl _) ?_
            clear hK hW hg5 hs hrc hrd hJ RA RB QA QB
            simp only [Act.put, List.setIfInBounds_toArray, List.set_cons_zero, List.set_cons_succ]
            iterate 4
              apply frs_take; exact rfl; (simp); (simp); (intro x1 x2; exact rfl)
              · intro x1 x2 W' hW
                have fp := grow_blk hW FP.out
                have fq := grow_blk hW FQ.out
                have z0 := cell_of_row _ _ 0 _ _ (0, 0) fp
                have z1 := cell_of_row _ _ 1 _ _ (0, 0) fp
                have y0 := cell_of_row _ _ 0 _ _ (0, 0) fq
                have y1 := cell_of_row _ _ 1 _ _ (0, 0) fq
                clear hW fp fq
                simp only [FA.put2, Act.put, List.setIfInBounds_toArray, List.set_cons_zero, List.set_cons_succ]
                go_simp
                with_reducible rfl
              simp only [Act.put, List.setIfInBounds_toArray, List.set_cons_zero, List.set_cons_succ]
            refine frs_nil ?_
            intro c1 c2 V hV hJ hne hc1 hc2
            have RC := Lib.hid (RC.out.gr hJ)
            have RD := Lib.hid (RD.out.gr hJ)
            have FC1 : Hid (V.heap[c1]? = some (.cells zeroRV.cells.toArray 35 (0, 0))) := hc1.2
            have FC2 : Hid (V.heap[c2]? = some (.cells zeroRV.cells.toArray 35 (0, 0))) := hc2.2
            have N1 : BoxN V c1 := ⟨_, _, _, FC1.out, RV.noint _⟩
            have N2 : BoxN V c2 := ⟨_, _, _, FC2.out, RV.noint _⟩
            have NE : Hid (c1 ≠ c2 ∧ c2 ≠ c1) := ⟨hne, fun e => hne e.symm⟩
            have LC : Hid (w.heap.size ≤ c1 ∧ w.heap.size ≤ c2) := ⟨Nat.le_trans LEB.out hc1.1, Nat.le_trans LEB.out hc2.1⟩
            have L1 : wb.heap.size ≤ c1 := hc1.1
            have L2 : wb.heap.size ≤ c2 := hc2.1
            have B0 := lt_of_block F0.out
            have B1 := lt_of_block F1.out
            have B2 := lt_of_block FP.out
            have B3 := lt_of_block FQ.out
            have CR : Hid (r0 ≠ c1 ∧ r0 ≠ c2 ∧ r1 ≠ c1 ∧ r1 ≠ c2 ∧ bp ≠ c1 ∧ bp ≠ c2 ∧ bq ≠ c1 ∧ bq ≠ c2) := ⟨by omega, by omega, by omega, by omega, by omega, by omega, by omega, by omega⟩
            clear B0 B1 B2 B3
            refine ⟨Grow wb, fun _ h => h, hV, ?_⟩
            have G1 : Grow wb (V.setRow c1 rc.cells.toArray) := Grow.row hV L1 _
            have G2 : Grow wb ((V.setRow c1 rc.cells.toArray).setRow c2 rd.cells.toArray) := G1.row L2 _
            have H2 : (V.setRow c1 rc.cells.toArray).heap[c2]? = some (.cells zeroRV.cells.toArray 35 (0, 0)) := (setRow_other _ _ _ _ NE.out.2).trans FC2.out
            unfold ptrTo FA.put2
            simp only [Act.put, List.setIfInBounds_toArray, List.set_cons_zero, List.set_cons_succ, List.drop_succ_cons, List.drop_zero]
            apply lext_turn; exact rfl; exact rfl; exact rfl; intro K hK
            refine wp_store_row 35 _ _ rfl c1 rc.cells.toArray rfl rfl 35 _ FC1.out (by kernel_rfl) rfl (RV.one _) ?_
            refine hK.out _ _ G1 ?_
            clear hK
            simp only [Act.put]
            apply lext_turn; exact rfl; exact rfl; exact rfl; intro K hK
            refine wp_store_row 35 _ _ rfl c2 rd.cells.toArray rfl rfl 35 _ H2 (by kernel_rfl) rfl (RV.one _) ?_
            refine hK.out _ _ G2 ?_
            clear hK
            simp only [Act.put]
            refine lext_nil ?_
            have GW := Lib.hid (GW0.out.tr G2)
            have FP := Lib.hid (grow_blk G2 FP.out)
            have FQ := Lib.hid (grow_blk G2 FQ.out)
            have F0 := Lib.hid (grow_blk G2 F0.out)
            have F1 := Lib.hid (grow_blk G2 F1.out)
            have RC : Hid (rc.rd ((V.setRow c1 rc.cells.toArray).setRow c2 rd.cells.toArray) (fun b => w.heap.size ≤ b) 5) := (RC.out.row N1 _).row (N2.row NE.out.2 _) _
            have RD : Hid (rd.rd ((V.setRow c1 rc.cells.toArray).setRow c2 rd.cells.toArray) (fun b => w.heap.size ≤ b) 5) := (RD.out.row N1 _).row (N2.row NE.out.2 _) _
            have FC2n := Lib.hid (setRow_heap _ c2 _ rd.cells.toArray _ _ H2)
            have FC1 := Lib.hid ((setRow_other _ c2 c1 rd.cells.toArray NE.out.1).trans (setRow_heap _ c1 _ rc.cells.toArray _ _ FC1.out))
            have FC2 := Lib.hid FC2n.out
            clear FC2n H2 G1 G2 N1 N2 L1 L2 hV hne hc1 hc2 hJ GW0 LEB
            generalize (V.setRow c1 rc.cells.toArray).setRow c2 rd.cells.toArray = w9 at *
            cases ok1 with
            | false =>
              have HV : Hid ((segQ ⟨px, py⟩ ⟨qx, qy⟩ lo hi).2.2 = false) := by
                show _ = _
                unfold segQ
                rw [if_neg (by rw [NB.out]; decide)]
                dsimp only
                rw [QS.out, if_pos rfl]
              have H1 := Lib.hid ((setRow_other w9 r0 r1 zeroPV.cells.toArray NN.out.2).trans F1.out)
              go_wp2_with (first | (refine wpList_store_row rfl 37 _ _ rfl r0 zeroPV.cells.toArray rfl rfl 37 _ F0.out (by kernel_rfl) rfl (PV.one _) ?_) | (refine wpList_store_row rfl 37 _ _ rfl r1 zeroPV.cells.toArray rfl rfl 37 _ H1.out (by kernel_rfl) rfl (PV.one _) ?_))
              refine bodyPost_ret (v := .tuple #[.agg zeroPV.cells.toArray, .agg zeroPV.cells.toArray, .bool false]) ?_ rfl ?_
              · exact results_ccs rfl _ _ r0 r1 _ _ _ _ _ _ _ _ rfl ((setRow_other _ r1 r0 _ NN.out.1).trans (setRow_heap _ r0 _ _ _ _ F0.out)) rfl (setRow_heap _ r1 _ _ _ _ H1.out) rfl rfl rfl Try.underlying37 (by kernel_rfl) Try.underlying37 (by kernel_rfl)
              · exact HR.out zeroPV zeroPV false _ ((GW.out.row LE.out.1 _).row LE.out.2 _) HV.out (fun h => by cases h)
            | true =>
              go_upto_region 6 with fail
              have p1 := cell_of_row _ bp 1 _ _ (0, 0) FP.out
              have q1 := cell_of_row _ bq 1 _ _ (0, 0) FQ.out
              go_wp2_with (first | (refine wpList_load_row rfl 35 _ rfl c1 rfl 35 _ _ _ FC1.out Try.underlying35 rfl (by kernel_rfl) ?_) | (refine wpList_load_row rfl 35 _ rfl c2 rfl 35 _ _ _ FC2.out Try.underlying35 rfl (by kernel_rfl) ?_))
              refine slab_q rc rd py qy lo hi 5 (fun b => w.heap.size ≤ b) _ RC.out RD.out (by omega) (by omega) HP.out.2.1 HP.out.2.2.2.1 HP.out.2.2.2.2.1 HP.out.2.2.2.2.2 ?_
              intro re rf ok2 wc hgc hs hre hrf
              have RE := Lib.hid (hre.into (T := fun b => w.heap.size ≤ b) fun b hb => by have := GW.out.size; rcases hb with h | h <;> omega)
              have RF := Lib.hid (hrf.into (T := fun b => w.heap.size ≤ b) fun b hb => by have := GW.out.size; rcases hb with h | h <;> omega)
              have QS2 := Lib.hid hs
              have FP := Lib.hid (grow_blk hgc FP.out)
              have FQ := Lib.hid (grow_blk hgc FQ.out)
              have F0 := Lib.hid (grow_blk hgc F0.out)
              have F1 := Lib.hid (grow_blk hgc F1.out)
              have FC1 := Lib.hid (grow_blk hgc FC1.out)
              have FC2 := Lib.hid (grow_blk hgc FC2.out)
              have GW := Lib.hid (GW.out.tr hgc)
              clear hgc hs hre hrf RC RD p1 q1
              have H2 := Lib.hid ((setRow_other wc c1 c2 re.cells.toArray NE.out.2).trans FC2.out)
              go_upto_region 7 with (first | (refine wpList_store_row rfl 35 _ _ rfl c1 re.cells.toArray rfl rfl 35 _ FC1.out (by kernel_rfl) rfl (RV.one _) ?_) | (refine wpList_store_row rfl 35 _ _ rfl c2 rf.cells.toArray rfl rfl 35 _ H2.out (by kernel_rfl) rfl (RV.one _) ?_))
              have N1 : BoxN wc c1 := ⟨_, _, _, FC1.out, RV.noint _⟩
              have N2 : BoxN wc c2 := ⟨_, _, _, FC2.out, RV.noint _⟩
              have RE : Hid (re.rd ((wc.setRow c1 re.cells.toArray).setRow c2 rf.cells.toArray) (fun b => w.heap.size ≤ b) 5) := (RE.out.row N1 _).row (N2.row NE.out.2 _) _
              have RF : Hid (rf.rd ((wc.setRow c1 re.cells.toArray).setRow c2 rf.cells.toArray) (fun b => w.heap.size ≤ b) 5) := (RF.out.row N1 _).row (N2.row NE.out.2 _) _
              have FC2n := Lib.hid (setRow_heap _ c2 _ rf.cells.toArray _ _ H2.out)
              have FC1 := Lib.hid ((setRow_other _ c2 c1 rf.cells.toArray NE.out.1).trans (setRow_heap _ c1 _ re.cells.toArray _ _ FC1.out))
              have FC2 := Lib.hid FC2n.out
              have GW := Lib.hid ((GW.out.row LC.out.1 re.cells.toArray).row LC.out.2 rf.cells.toArray)
              have FP := Lib.hid ((setRow_other (wc.setRow c1 re.cells.toArray) c2 bp rf.cells.toArray CR.out.2.2.2.2.2.1).trans ((setRow_other wc c1 bp re.cells.toArray CR.out.2.2.2.2.1).trans FP.out))
              have FQ := Lib.hid ((setRow_other (wc.setRow c1 re.cells.toArray) c2 bq rf.cells.toArray CR.out.2.2.2.2.2.2.2).trans ((setRow_other wc c1 bq re.cells.toArray CR.out.2.2.2.2.2.2.1).trans FQ.out))
              have F0 := Lib.hid ((setRow_other (wc.setRow c1 re.cells.toArray) c2 r0 rf.cells.toArray CR.out.2.1).trans ((setRow_other wc c1 r0 re.cells.toArray CR.out.1).trans F0.out))
              have F1 := Lib.hid ((setRow_other (wc.setRow c1 re.cells.toArray) c2 r1 rf.cells.toArray CR.out.2.2.2.1).trans ((setRow_other wc c1 r1 re.cells.toArray CR.out.2.2.1).trans F1.out))
              clear FC2n H2 N1 N2
              generalize (wc.setRow c1 re.cells.toArray).setRow c2 rf.cells.toArray = wd at *
              cases ok2 with
              | false =>
                have HV : Hid ((segQ ⟨px, py⟩ ⟨qx, qy⟩ lo hi).2.2 = false) := by
                  show _ = _
                  unfold segQ
                  rw [if_neg (by rw [NB.out]; decide)]
                  dsimp only
                  rw [QS.out]
                  dsimp only
                  rw [QS2.out]
                  rfl
                have H1 := Lib.hid ((setRow_other wd r0 r1 zeroPV.cells.toArray NN.out.2).trans F1.out)
                go_wp2_with (first | (refine wpList_store_row rfl 37 _ _ rfl r0 zeroPV.cells.toArray rfl rfl 37 _ F0.out (by kernel_rfl) rfl (PV.one _) ?_) | (refine wpList_store_row rfl 37 _ _ rfl r1 zeroPV.cells.toArray rfl rfl 37 _ H1.out (by kernel_rfl) rfl (PV.one _) ?_))
                refine bodyPost_ret (v := .tuple #[.agg zeroPV.cells.toArray, .agg zeroPV.cells.toArray, .bool false]) ?_ rfl ?_
                · exact results_ccs rfl _ _ r0 r1 _ _ _ _ _ _ _ _ rfl ((setRow_other _ r1 r0 _ NN.out.1).trans (setRow_heap _ r0 _ _ _ _ F0.out)) rfl (setRow_heap _ r1 _ _ _ _ H1.out) rfl rfl rfl Try.underlying37 (by kernel_rfl) Try.underlying37 (by kernel_rfl)
                · exact HR.out zeroPV zeroPV false _ ((GW.out.row LE.out.1 _).row LE.out.2 _) HV.out (fun h => by cases h)
              | true =>
                have HV : Hid (segQ ⟨px, py⟩ ⟨qx, qy⟩ lo hi = (onQ ⟨px, py⟩ ⟨qx, qy⟩ re.q, onQ ⟨px, py⟩ ⟨qx, qy⟩ rf.q, true)) := by
                  show _ = _
                  unfold segQ
                  rw [if_neg (by rw [NB.out]; decide)]
                  dsimp only
                  rw [QS.out]
                  dsimp only
                  rw [QS2.out]
                  rfl
                rw [HV.out] at HR
                dsimp only at HR
                clear HV QS QS2 NB
                go_wp2_with fail
                have G0 := Lib.hid ((Grow.refl wd).dr)
                have FP := Lib.hid (grow_blk G0.out FP.out)
                have FQ := Lib.hid (grow_blk G0.out FQ.out)
                have F0 := Lib.hid (grow_blk G0.out F0.out)
                have F1 := Lib.hid (grow_blk G0.out F1.out)
                have FC1 := Lib.hid (grow_blk G0.out FC1.out)
                have FC2 := Lib.hid (grow_blk G0.out FC2.out)
                have RE := Lib.hid (RE.out.gr G0.out)
                have RF := Lib.hid (RF.out.gr G0.out)
                have GW := Lib.hid (GW.out.tr G0.out)
                clear G0
                have OE := Lib.hid fun S W (h : re.rd W S 5) (R : Ending → World → Prop) hR => on_q ⟨px, py⟩ ⟨qx, qy⟩ re 5 S W h (by omega) HPO.out.1 HPO.out.2 (R := R) hR
                have OF := Lib.hid fun S W (h : rf.rd W S 5) (R : Ending → World → Prop) hR => on_q ⟨px, py⟩ ⟨qx, qy⟩ rf 5 S W h (by omega) HPO.out.1 HPO.out.2 (R := R) hR
                unfold Pt.cells at OE OF
                dsimp only at OE OF
                refine wp_region_lexT (Grow wd.drew) ((Grow.refl _)) 7 [0, 1, 2, 4, 5, 6, 3] (by kernel_rfl) (by kernel_rfl) (by intro c a d v w h; cases d <;> exact h) ?_
                apply lext_take; exact rfl; exact rfl; (intro W hW; exact exec_load_row 23 _ rfl bp rfl 23 _ _ _ (grow_blk hW FP.out) rfl Try.underlying23 (by kernel_rfl))
                try simp only [Act.put, List.setIfInBounds_toArray, List.set_cons_zero, List.set_cons_succ]
                apply lext_take; exact rfl; exact rfl; (intro W hW; exact exec_load_row 23 _ rfl bq rfl 23 _ _ _ (grow_blk hW FQ.out) rfl Try.underlying23 (by kernel_rfl))
                try simp only [Act.put, List.setIfInBounds_toArray, List.set_cons_zero, List.set_cons_succ]
                apply lext_take; exact rfl; exact rfl; (intro W hW; exact exec_load_row 35 _ rfl c1 rfl 35 _ _ _ (grow_blk hW FC1.out) rfl Try.underlying35 (by kernel_rfl))
                try simp only [Act.put, List.setIfInBounds_toArray, List.set_cons_zero, List.set_cons_succ]
                apply lext_take; exact rfl; exact rfl; (intro W hW; exact exec_load_row 23 _ rfl bp rfl 23 _ _ _ (grow_blk hW FP.out) rfl Try.underlying23 (by kernel_rfl))
                try simp only [Act.put, List.setIfInBounds_toArray, List.set_cons_zero, List.set_cons_succ]
                apply lext_take; exact rfl; exact rfl; (intro W hW; exact exec_load_row 23 _ rfl bq rfl 23 _ _ _ (grow_blk hW FQ.out) rfl Try.underlying23 (by kernel_rfl))
                try simp only [Act.put, List.setIfInBounds_toArray, List.set_cons_zero, List.set_cons_succ]
                apply lext_take; exact rfl; exact rfl; (intro W hW; exact exec_load_row 35 _ rfl c2 rfl 35 _ _ _ (grow_blk hW FC2.out) rfl Try.underlying35 (by kernel_rfl))
                try simp only [Act.put, List.setIfInBounds_toArray, List.set_cons_zero, List.set_cons_succ]
                generalize wd.drew = we at *
                clear FP FQ FC1 FC2
                apply lext_turn; exact rfl; exact rfl; exact rfl; intro K hK; go_simp; go_at_call 45; refine OE.out _ _ RE.out _ ?_; intro rg w6 hg6 hqg hrg
                have RF := Lib.hid (RF.out.gr hg6)
                have RG := Lib.hid (hrg.into (T := fun b => w.heap.size ≤ b) fun b hb => by have := GW.out.size; omega)
                have QG := Lib.hid hqg
                have G6 := Lib.hid hg6
                refine hK.out _ _ hg6 ?_
                clear hK hg6 hqg hrg OE
                try simp only [Act.put, List.setIfInBounds_toArray, List.set_cons_zero, List.set_cons_succ]
                refine lext_nil ?_
                simp only [List.drop_succ_cons, List.drop_zero]
                go_wp2_with fail
                go_at_call 45
                refine OF.out _ _ RF.out _ ?_
                intro ri w7 hg7 hqi hri
                have RG := Lib.hid (RG.out.gr hg7)
                have LS : Hid (w.heap.size ≤ w6.heap.size) := (GW.out.tr G6.out).size
                have RI := Lib.hid (hri.into (T := fun b => w.heap.size ≤ b) fun b hb => by have := LS.out; omega)
                have QI := Lib.hid hqi
                have G7 := Lib.hid (G6.out.tr hg7)
                have F0 := Lib.hid (grow_blk G7.out F0.out)
                have F1 := Lib.hid (grow_blk G7.out F1.out)
                have GW := Lib.hid (GW.out.tr G7.out)
                clear hg7 hqi hri OF RE RF G6 G7 LS
                have H1 := Lib.hid ((setRow_other w7 r0 r1 rg.cells.toArray NN.out.2).trans F1.out)
                have M0 : BoxN w7 r0 := ⟨_, _, _, F0.out, PV.noint _⟩
                have M1 : BoxN w7 r1 := ⟨_, _, _, F1.out, PV.noint _⟩
                go_wp2_with (first | (refine wpList_store_row rfl 37 _ _ rfl r0 rg.cells.toArray rfl rfl 37 _ F0.out (by kernel_rfl) rfl (PV.one _) ?_) | (refine wpList_store_row rfl 37 _ _ rfl r1 ri.cells.toArray rfl rfl 37 _ H1.out (by kernel_rfl) rfl (PV.one _) ?_))
                refine bodyPost_ret (v := .tuple #[.agg rg.cells.toArray, .agg ri.cells.toArray, .bool true]) ?_ rfl ?_
                · exact results_ccs rfl _ _ r0 r1 _ _ _ _ _ _ _ _ rfl ((setRow_other _ r1 r0 _ NN.out.1).trans (setRow_heap _ r0 _ _ _ _ F0.out)) rfl (setRow_heap _ r1 _ _ _ _ H1.out) rfl rfl rfl Try.underlying37 (by kernel_rfl) Try.underlying37 (by kernel_rfl)
                · exact HR.out rg ri true _ ((GW.out.row LE.out.1 _).row LE.out.2 _) rfl (fun _ => ⟨QG.out, QI.out, (RG.out.row M0 _).row (M1.row NN.out.2 _) _, (RI.out.row M0 _).row (M1.row NN.out.2 _) _⟩)
end Go.Proofs.Ytjcgkhcbdbbdkaa
