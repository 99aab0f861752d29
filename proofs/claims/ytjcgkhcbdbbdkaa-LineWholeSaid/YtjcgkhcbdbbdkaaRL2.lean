/-
  The reference's lines, second part: slab.
-/
import Derived.Test.YtjcgkhcbdbbdkaaChecked
import Derived.Test.YtjcgkhcbdbbdkaaRL1
import Derived.Deep.Cut
namespace Go.Proofs.Ytjcgkhcbdbbdkaa
open Go.RowKit Go.Lib B

def slabX (p q lo hi : Int) : Rat := (((if q < p then hi else lo) - p : Int) : Rat) / ((q - p : Int) : Rat)
def slabY (p q lo hi : Int) : Rat := (((if q < p then lo else hi) - p : Int) : Rat) / ((q - p : Int) : Rat)
def slabQ (a b : Rat) (p q lo hi : Int) : Rat × Rat × Bool :=
  if p = q then (a, b, decide (lo ≤ p) && decide (p ≤ hi))
  else (if a < slabX p q lo hi then slabX p q lo hi else a, if slabY p q lo hi < b then slabY p q lo hi else b,
    decide ((if a < slabX p q lo hi then slabX p q lo hi else a) ≤ (if slabY p q lo hi < b then slabY p q lo hi else b)))

set_option maxRecDepth 100000 in
set_option maxHeartbeats 16000000 in
theorem slab_q (a b : RV) (p q lo hi : Int) (k : Nat) (S : Nat → Prop) (w : World) (ha : a.rd w S k) (hb : b.rd w S k) (hk5 : 5 ≤ k) (hk : k ≤ 10000) (hp : I64 p) (hq : I64 q) (hlo : I64 lo) (hhi : I64 hi) {R : Ending → World → Prop}
    (hR : ∀ (a' b' : RV) ok w', Grow w w' → slabQ a.q b.q p q lo hi = (a'.q, b'.q, ok) → a'.rd w' (fun x => S x ∨ w.heap.size ≤ x) k → b'.rd w' (fun x => S x ∨ w.heap.size ≤ x) k → R (.returned (.tuple #[.agg a'.cells.toArray, .agg b'.cells.toArray, .bool ok])) w') :
    Calls Try.prog 44 #[.agg a.cells.toArray, .agg b.cells.toArray, .int .i64 p, .int .i64 q, .int .i64 lo, .int .i64 hi] w R := by
  have HR := Lib.hid hR
  clear hR
  have HA := Lib.hid (show a.rd w (fun x => S x ∨ w.heap.size ≤ x) k from ha.into fun _ h => .inl h)
  have HB := Lib.hid (show b.rd w (fun x => S x ∨ w.heap.size ≤ x) k from hb.into fun _ h => .inl h)
  have HI := Lib.hid (And.intro hp (And.intro hq (And.intro hlo hhi)))
  have HK := Lib.hid (And.intro hk5 hk)
  clear ha hb hp hq hlo hhi hk5 hk
  obtain ⟨⟨a1, a2, a3, a4⟩, ⟨a5, a6, a7, a8⟩, aq⟩ := a
  obtain ⟨⟨b1, b2, b3, b4⟩, ⟨b5, b6, b7, b8⟩, bq⟩ := b
  unfold RV.cells at HR ⊢
  dsimp only at HR ⊢
  obtain ⟨wa, hwa⟩ : ∃ wa, wa = (((w.alloc (.cells #[.bool a1, .slice a2 a3 a4, .bool a5, .slice a6 a7 a8] 35)).alloc (.cells #[.bool b1, .slice b2 b3 b4, .bool b5, .slice b6 b7 b8] 35)).alloc (.cells #[.bool false, .slice none 0 0, .bool false, .slice none 0 0] 35)).alloc (.cells #[.bool false, .slice none 0 0, .bool false, .slice none 0 0] 35) := ⟨_, rfl⟩
  have GA : Hid (Grow w wa) := by subst hwa; exact ((((Grow.refl w).al _).al _).al _).al _
  have FA : Hid (wa.heap[w.heap.size]? = some (.cells #[.bool a1, .slice a2 a3 a4, .bool a5, .slice a6 a7 a8] 35 (0, 0))) := by
    subst hwa
    exact blk_al w _ _ ((((Grow.refl _).al _).al _).al _)
  have FB : Hid (wa.heap[w.heap.size + 1]? = some (.cells #[.bool b1, .slice b2 b3 b4, .bool b5, .slice b6 b7 b8] 35 (0, 0))) := by
    subst hwa
    have := blk_al (w.alloc (.cells #[.bool a1, .slice a2 a3 a4, .bool a5, .slice a6 a7 a8] 35)) #[.bool b1, .slice b2 b3 b4, .bool b5, .slice b6 b7 b8] 35 (((Grow.refl _).al (.cells #[.bool false, .slice none 0 0, .bool false, .slice none 0 0] 35)).al (.cells #[.bool false, .slice none 0 0, .bool false, .slice none 0 0] 35))
    rwa [World.size_alloc] at this
  have F0 : Hid (wa.heap[w.heap.size + 1 + 1]? = some (.cells #[.bool false, .slice none 0 0, .bool false, .slice none 0 0] 35 (0, 0))) := by
    subst hwa
    have := blk_al ((w.alloc (.cells #[.bool a1, .slice a2 a3 a4, .bool a5, .slice a6 a7 a8] 35)).alloc (.cells #[.bool b1, .slice b2 b3 b4, .bool b5, .slice b6 b7 b8] 35)) #[.bool false, .slice none 0 0, .bool false, .slice none 0 0] 35 ((Grow.refl _).al (.cells #[.bool false, .slice none 0 0, .bool false, .slice none 0 0] 35))
    rwa [World.size_alloc, World.size_alloc] at this
  have F1 : Hid (wa.heap[w.heap.size + 1 + 1 + 1]? = some (.cells #[.bool false, .slice none 0 0, .bool false, .slice none 0 0] 35 (0, 0))) := by
    subst hwa
    have := blk_al (((w.alloc (.cells #[.bool a1, .slice a2 a3 a4, .bool a5, .slice a6 a7 a8] 35)).alloc (.cells #[.bool b1, .slice b2 b3 b4, .bool b5, .slice b6 b7 b8] 35)).alloc (.cells #[.bool false, .slice none 0 0, .bool false, .slice none 0 0] 35)) #[.bool false, .slice none 0 0, .bool false, .slice none 0 0] 35 (Grow.refl _)
    rwa [World.size_alloc, World.size_alloc, World.size_alloc] at this
  have SZ : Hid (wa.heap.size = w.heap.size + 4) := by
    subst hwa
    show _ = _
    simp only [World.size_alloc]
  obtain ⟨ba, hba⟩ : ∃ x, x = w.heap.size := ⟨_, rfl⟩
  obtain ⟨bb, hbb⟩ : ∃ x, x = w.heap.size + 1 := ⟨_, rfl⟩
  obtain ⟨r0, hr0⟩ : ∃ x, x = w.heap.size + 1 + 1 := ⟨_, rfl⟩
  obtain ⟨r1, hr1⟩ : ∃ x, x = w.heap.size + 1 + 1 + 1 := ⟨_, rfl⟩
  have NN : Hid (ba ≠ bb ∧ bb ≠ ba ∧ r0 ≠ r1 ∧ r1 ≠ r0 ∧ r0 ≠ ba ∧ r0 ≠ bb ∧ r1 ≠ ba ∧ r1 ≠ bb) := ⟨by omega, by omega, by omega, by omega, by omega, by omega, by omega, by omega⟩
  have LE : Hid (w.heap.size ≤ ba ∧ w.heap.size ≤ bb ∧ w.heap.size ≤ r0 ∧ w.heap.size ≤ r1) := ⟨by omega, by omega, by omega, by omega⟩
  have LT : Hid (ba < wa.heap.size ∧ bb < wa.heap.size ∧ r0 < wa.heap.size ∧ r1 < wa.heap.size) := by
    have := SZ.out
    exact ⟨by omega, by omega, by omega, by omega⟩
  rw [← hba] at FA
  rw [← hbb] at FB
  rw [← hr0] at F0
  rw [← hr1] at F1
  by_cases hpq : p = q
  · have HV : Hid (slabQ aq bq p q lo hi = (aq, bq, decide (lo ≤ p) && decide (p ≤ hi))) := by
      show _ = _
      unfold slabQ
      rw [if_pos hpq]
    rw [HV.out] at HR
    have t1 : (p == q) = true := by rw [beq_iff_eq]; exact hpq
    clear hpq HV HI HK
    by_cases h1 : lo ≤ p
    · have t2 : decide (lo ≤ p) = true := decide_eq_true h1
      have e2 : (decide (lo ≤ p) && decide (p ≤ hi)) = decide (p ≤ hi) := by rw [t2]; rfl
      rw [e2] at HR
      clear e2 h1
      obtain ⟨t3, ht3⟩ : ∃ t, decide (p ≤ hi) = t := ⟨_, rfl⟩
      rw [ht3] at HR
      go_enter Try.func44, Try.ntmps44
      go_wp2_with fail
      rw [← hwa]
      clear hwa
      rw [← hr1, ← hr0, ← hbb, ← hba]
      clear hba hbb hr0 hr1
      go_wp2_with fail
      have GW := Lib.hid (GA.out.dr)
      have RX : Hid ((⟨⟨a1, a2, a3, a4⟩, ⟨a5, a6, a7, a8⟩, aq⟩ : RV).rd wa.drew (fun x => S x ∨ w.heap.size ≤ x) k) := HA.out.gr GW.out
      have RY : Hid ((⟨⟨b1, b2, b3, b4⟩, ⟨b5, b6, b7, b8⟩, bq⟩ : RV).rd wa.drew (fun x => S x ∨ w.heap.size ≤ x) k) := HB.out.gr GW.out
      have FA := Lib.hid (show wa.drew.heap[_]? = _ from FA.out)
      have FB := Lib.hid (show wa.drew.heap[_]? = _ from FB.out)
      have F0 := Lib.hid (show wa.drew.heap[_]? = _ from F0.out)
      have F1 := Lib.hid (show wa.drew.heap[_]? = _ from F1.out)
      clear GA
      refine wp_region_lexT (fun W => Grow w W ∧ (Grow wa.drew W ∨ True) ∧ (∀ i, i = ba ∨ i = bb → W.heap[i]? = wa.drew.heap[i]?)) (⟨GW.out, .inr trivial, fun _ _ => rfl⟩) 12 [0, 1, 2, 3, 4, 5, 6, 7, 8, 9, 10, 11] (by kernel_rfl) (by kernel_rfl) (by intro c a d v w h; cases d <;> exact h) ?_
      iterate 10 (apply lext_take; exact rfl; exact rfl; (intro W hW; have fa := (hW.2.2 ba (.inl rfl)).trans FA.out; have fb := (hW.2.2 bb (.inr rfl)).trans FB.out; have z0 := cell_of_row _ ba 0 _ _ (0, 0) fa; have y0 := cell_of_row _ bb 0 _ _ (0, 0) fb; have z1 := cell_of_row _ ba 1 _ _ (0, 0) fa; have y1 := cell_of_row _ bb 1 _ _ (0, 0) fb; have z2 := cell_of_row _ ba 2 _ _ (0, 0) fa; have y2 := cell_of_row _ bb 2 _ _ (0, 0) fb; have z3 := cell_of_row _ ba 3 _ _ (0, 0) fa; have y3 := cell_of_row _ bb 3 _ _ (0, 0) fb; clear fa fb; (try clear hW); go_simp; with_reducible rfl); try simp only [Act.put, List.setIfInBounds_toArray, List.set_cons_zero, List.set_cons_succ])
      generalize wa.drew = wb at *
      have ub0 := F0.out
      have uz0 := cell_of_row _ (r0) 0 _ _ (0, 0) ub0
      have ug0 := frozen_of_row _ (r0) 0 _ _ ub0
      have ub1 := blk_set ub0 0 (.bool a1)
      have uz1 := cell_of_row _ (r0) 1 _ _ (0, 0) ub1
      have ug1 := frozen_of_row _ (r0) 1 _ _ ub1
      have ub2 := blk_set ub1 1 (.slice a2 a3 a4)
      have uz2 := cell_of_row _ (r0) 2 _ _ (0, 0) ub2
      have ug2 := frozen_of_row _ (r0) 2 _ _ ub2
      have ub3 := blk_set ub2 2 (.bool a5)
      have uz3 := cell_of_row _ (r0) 3 _ _ (0, 0) ub3
      have ug3 := frozen_of_row _ (r0) 3 _ _ ub3
      have ub4 := blk_set ub3 3 (.slice a6 a7 a8)
      simp only [List.setIfInBounds_toArray, List.set_cons_zero, List.set_cons_succ] at uz0 uz1 uz2 uz3
      have uL := Lib.hid ub4
      clear ub0 ub1 ub2 ub3 ub4
      have F1c := (st4_other (W := wb) (b := r0) (c := r1) NN.out.2.2.2.1 (.bool a1) (.slice a2 a3 a4) (.bool a5) (.slice a6 a7 a8)).trans F1.out
      unfold st4 at F1c
      have vb0 := F1c
      have vz0 := cell_of_row _ (r1) 0 _ _ (0, 0) vb0
      have vg0 := frozen_of_row _ (r1) 0 _ _ vb0
      have vb1 := blk_set vb0 0 (.bool b1)
      have vz1 := cell_of_row _ (r1) 1 _ _ (0, 0) vb1
      have vg1 := frozen_of_row _ (r1) 1 _ _ vb1
      have vb2 := blk_set vb1 1 (.slice b2 b3 b4)
      have vz2 := cell_of_row _ (r1) 2 _ _ (0, 0) vb2
      have vg2 := frozen_of_row _ (r1) 2 _ _ vb2
      have vb3 := blk_set vb2 2 (.bool b5)
      have vz3 := cell_of_row _ (r1) 3 _ _ (0, 0) vb3
      have vg3 := frozen_of_row _ (r1) 3 _ _ vb3
      have vb4 := blk_set vb3 3 (.slice b6 b7 b8)
      simp only [List.setIfInBounds_toArray, List.set_cons_zero, List.set_cons_succ] at vz0 vz1 vz2 vz3
      have vL := Lib.hid vb4
      clear vb0 vb1 vb2 vb3 vb4
      have R0L : ((((((((wb.setCell ⟨r0, 0, none⟩ (.bool a1)).setCell ⟨r0, 1, none⟩ (.slice a2 a3 a4)).setCell ⟨r0, 2, none⟩ (.bool a5)).setCell ⟨r0, 3, none⟩ (.slice a6 a7 a8)).setCell ⟨r1, 0, none⟩ (.bool b1)).setCell ⟨r1, 1, none⟩ (.slice b2 b3 b4)).setCell ⟨r1, 2, none⟩ (.bool b5)).setCell ⟨r1, 3, none⟩ (.slice b6 b7 b8)).heap[r0]? = some (.cells #[.bool a1, .slice a2 a3 a4, .bool a5, .slice a6 a7 a8] 35 (0, 0)) := (st4_other (W := ((((wb.setCell ⟨r0, 0, none⟩ (.bool a1)).setCell ⟨r0, 1, none⟩ (.slice a2 a3 a4)).setCell ⟨r0, 2, none⟩ (.bool a5)).setCell ⟨r0, 3, none⟩ (.slice a6 a7 a8))) (b := r1) (c := r0) NN.out.2.2.1 (.bool b1) (.slice b2 b3 b4) (.bool b5) (.slice b6 b7 b8)).trans uL.out
      have R1L : ((((((((wb.setCell ⟨r0, 0, none⟩ (.bool a1)).setCell ⟨r0, 1, none⟩ (.slice a2 a3 a4)).setCell ⟨r0, 2, none⟩ (.bool a5)).setCell ⟨r0, 3, none⟩ (.slice a6 a7 a8)).setCell ⟨r1, 0, none⟩ (.bool b1)).setCell ⟨r1, 1, none⟩ (.slice b2 b3 b4)).setCell ⟨r1, 2, none⟩ (.bool b5)).setCell ⟨r1, 3, none⟩ (.slice b6 b7 b8)).heap[r1]? = some (.cells #[.bool b1, .slice b2 b3 b4, .bool b5, .slice b6 b7 b8] 35 (0, 0)) := vL.out
      have y0 := cell_of_row _ (r0) 0 _ _ (0, 0) R0L
      have y1 := cell_of_row _ (r0) 1 _ _ (0, 0) R0L
      have y2 := cell_of_row _ (r0) 2 _ _ (0, 0) R0L
      have y3 := cell_of_row _ (r0) 3 _ _ (0, 0) R0L
      have x0 := cell_of_row _ (r1) 0 _ _ (0, 0) R1L
      have x1 := cell_of_row _ (r1) 1 _ _ (0, 0) R1L
      have x2 := cell_of_row _ (r1) 2 _ _ (0, 0) R1L
      have x3 := cell_of_row _ (r1) 3 _ _ (0, 0) R1L
      have GF : Hid (Grow w ((((((((wb.setCell ⟨r0, 0, none⟩ (.bool a1)).setCell ⟨r0, 1, none⟩ (.slice a2 a3 a4)).setCell ⟨r0, 2, none⟩ (.bool a5)).setCell ⟨r0, 3, none⟩ (.slice a6 a7 a8)).setCell ⟨r1, 0, none⟩ (.bool b1)).setCell ⟨r1, 1, none⟩ (.slice b2 b3 b4)).setCell ⟨r1, 2, none⟩ (.bool b5)).setCell ⟨r1, 3, none⟩ (.slice b6 b7 b8))) := ((GW.out).st4 LE.out.2.2.1 _ _ _ _).st4 LE.out.2.2.2 _ _ _ _
      have GH : Hid (Grow w ((((wb.setCell ⟨r0, 0, none⟩ (.bool a1)).setCell ⟨r0, 1, none⟩ (.slice a2 a3 a4)).setCell ⟨r0, 2, none⟩ (.bool a5)).setCell ⟨r0, 3, none⟩ (.slice a6 a7 a8))) := (GW.out).st4 LE.out.2.2.1 _ _ _ _
      have N0 : BoxN wb r0 := ⟨_, _, _, F0.out, rat_noint _ _ _ _ _ _ _ _⟩
      have N1 : BoxN wb r1 := ⟨_, _, _, F1.out, rat_noint _ _ _ _ _ _ _ _⟩
      have RXF : Hid ((⟨⟨a1, a2, a3, a4⟩, ⟨a5, a6, a7, a8⟩, aq⟩ : RV).rd ((((((((wb.setCell ⟨r0, 0, none⟩ (.bool a1)).setCell ⟨r0, 1, none⟩ (.slice a2 a3 a4)).setCell ⟨r0, 2, none⟩ (.bool a5)).setCell ⟨r0, 3, none⟩ (.slice a6 a7 a8)).setCell ⟨r1, 0, none⟩ (.bool b1)).setCell ⟨r1, 1, none⟩ (.slice b2 b3 b4)).setCell ⟨r1, 2, none⟩ (.bool b5)).setCell ⟨r1, 3, none⟩ (.slice b6 b7 b8)) (fun x => S x ∨ w.heap.size ≤ x) k) := st4_rv (st4_rv RX.out N0 _ _ _ _ (sl_noint _ _ _) (sl_noint _ _ _)) (N1.st4 r0 _ _ _ _ (sl_noint _ _ _) (sl_noint _ _ _)) _ _ _ _ (sl_noint _ _ _) (sl_noint _ _ _)
      have RYF : Hid ((⟨⟨b1, b2, b3, b4⟩, ⟨b5, b6, b7, b8⟩, bq⟩ : RV).rd ((((((((wb.setCell ⟨r0, 0, none⟩ (.bool a1)).setCell ⟨r0, 1, none⟩ (.slice a2 a3 a4)).setCell ⟨r0, 2, none⟩ (.bool a5)).setCell ⟨r0, 3, none⟩ (.slice a6 a7 a8)).setCell ⟨r1, 0, none⟩ (.bool b1)).setCell ⟨r1, 1, none⟩ (.slice b2 b3 b4)).setCell ⟨r1, 2, none⟩ (.bool b5)).setCell ⟨r1, 3, none⟩ (.slice b6 b7 b8)) (fun x => S x ∨ w.heap.size ≤ x) k) := st4_rv (st4_rv RY.out N0 _ _ _ _ (sl_noint _ _ _) (sl_noint _ _ _)) (N1.st4 r0 _ _ _ _ (sl_noint _ _ _) (sl_noint _ _ _)) _ _ _ _ (sl_noint _ _ _) (sl_noint _ _ _)
      clear F1c N0 N1 R0L R1L
      apply lext_turn; exact rfl; exact rfl; exact rfl; intro K hK; go_simp; skip
      refine hK.out _ _ ⟨GH.out, .inr trivial, fun i hi => Or.elim hi (fun e => by rw [e]; exact st4_other NN.out.2.2.2.2.1.symm _ _ _ _) (fun e => by rw [e]; exact st4_other NN.out.2.2.2.2.2.1.symm _ _ _ _)⟩ ?_
      clear hK
      try simp only [Act.put, List.setIfInBounds_toArray, List.set_cons_zero, List.set_cons_succ]
      apply lext_turn; exact rfl; exact rfl; exact rfl; intro K hK; go_simp; skip
      refine hK.out _ _ ⟨GF.out, .inr trivial, fun i hi => Or.elim hi (fun e => by rw [e]; exact (st4_other NN.out.2.2.2.2.2.2.1.symm _ _ _ _).trans (st4_other NN.out.2.2.2.2.1.symm _ _ _ _)) (fun e => by rw [e]; exact (st4_other NN.out.2.2.2.2.2.2.2.symm _ _ _ _).trans (st4_other NN.out.2.2.2.2.2.1.symm _ _ _ _))⟩ ?_
      clear hK
      try simp only [Act.put, List.setIfInBounds_toArray, List.set_cons_zero, List.set_cons_succ]
      refine lext_nil ?_
      simp only [List.drop_succ_cons, List.drop_zero]
      go_wp2
      exact bodyPost_ret (v := .tuple #[.agg #[.bool a1, .slice a2 a3 a4, .bool a5, .slice a6 a7 a8], .agg #[.bool b1, .slice b2 b3 b4, .bool b5, .slice b6 b7 b8], .bool t3]) (by simp [results, Try.f44, go_sem, y0, y1, y2, y3, x0, x1, x2, x3]) rfl (HR.out (⟨⟨a1, a2, a3, a4⟩, ⟨a5, a6, a7, a8⟩, aq⟩ : RV) (⟨⟨b1, b2, b3, b4⟩, ⟨b5, b6, b7, b8⟩, bq⟩ : RV) _ _ GF.out rfl RXF.out RYF.out)
    · have t2 : decide (lo ≤ p) = false := decide_eq_false h1
      have e2 : (decide (lo ≤ p) && decide (p ≤ hi)) = false := by rw [t2]; rfl
      rw [e2] at HR
      clear e2 h1
      go_enter Try.func44, Try.ntmps44
      go_wp2_with fail
      rw [← hwa]
      clear hwa
      rw [← hr1, ← hr0, ← hbb, ← hba]
      clear hba hbb hr0 hr1
      go_wp2_with fail
      have GW := Lib.hid (GA.out.dr)
      have RX : Hid ((⟨⟨a1, a2, a3, a4⟩, ⟨a5, a6, a7, a8⟩, aq⟩ : RV).rd wa.drew (fun x => S x ∨ w.heap.size ≤ x) k) := HA.out.gr GW.out
      have RY : Hid ((⟨⟨b1, b2, b3, b4⟩, ⟨b5, b6, b7, b8⟩, bq⟩ : RV).rd wa.drew (fun x => S x ∨ w.heap.size ≤ x) k) := HB.out.gr GW.out
      have FA := Lib.hid (show wa.drew.heap[_]? = _ from FA.out)
      have FB := Lib.hid (show wa.drew.heap[_]? = _ from FB.out)
      have F0 := Lib.hid (show wa.drew.heap[_]? = _ from F0.out)
      have F1 := Lib.hid (show wa.drew.heap[_]? = _ from F1.out)
      clear GA
      refine wp_region_lexT (fun W => Grow w W ∧ (Grow wa.drew W ∨ True) ∧ (∀ i, i = ba ∨ i = bb → W.heap[i]? = wa.drew.heap[i]?)) (⟨GW.out, .inr trivial, fun _ _ => rfl⟩) 12 [0, 1, 2, 3, 4, 5, 6, 7, 8, 9, 10, 11] (by kernel_rfl) (by kernel_rfl) (by intro c a d v w h; cases d <;> exact h) ?_
      iterate 6 (apply lext_take; exact rfl; exact rfl; (intro W hW; have fa := (hW.2.2 ba (.inl rfl)).trans FA.out; have fb := (hW.2.2 bb (.inr rfl)).trans FB.out; have z0 := cell_of_row _ ba 0 _ _ (0, 0) fa; have y0 := cell_of_row _ bb 0 _ _ (0, 0) fb; have z1 := cell_of_row _ ba 1 _ _ (0, 0) fa; have y1 := cell_of_row _ bb 1 _ _ (0, 0) fb; have z2 := cell_of_row _ ba 2 _ _ (0, 0) fa; have y2 := cell_of_row _ bb 2 _ _ (0, 0) fb; have z3 := cell_of_row _ ba 3 _ _ (0, 0) fa; have y3 := cell_of_row _ bb 3 _ _ (0, 0) fb; clear fa fb; (try clear hW); go_simp; with_reducible rfl); try simp only [Act.put, List.setIfInBounds_toArray, List.set_cons_zero, List.set_cons_succ])
      iterate 3 (apply lext_skip; exact rfl; exact rfl; try simp only [Act.put, List.setIfInBounds_toArray, List.set_cons_zero, List.set_cons_succ])
      iterate 1 (apply lext_take; exact rfl; exact rfl; (intro W hW; (try clear hW); go_simp; with_reducible rfl); try simp only [Act.put, List.setIfInBounds_toArray, List.set_cons_zero, List.set_cons_succ])
      generalize wa.drew = wb at *
      have ub0 := F0.out
      have uz0 := cell_of_row _ (r0) 0 _ _ (0, 0) ub0
      have ug0 := frozen_of_row _ (r0) 0 _ _ ub0
      have ub1 := blk_set ub0 0 (.bool a1)
      have uz1 := cell_of_row _ (r0) 1 _ _ (0, 0) ub1
      have ug1 := frozen_of_row _ (r0) 1 _ _ ub1
      have ub2 := blk_set ub1 1 (.slice a2 a3 a4)
      have uz2 := cell_of_row _ (r0) 2 _ _ (0, 0) ub2
      have ug2 := frozen_of_row _ (r0) 2 _ _ ub2
      have ub3 := blk_set ub2 2 (.bool a5)
      have uz3 := cell_of_row _ (r0) 3 _ _ (0, 0) ub3
      have ug3 := frozen_of_row _ (r0) 3 _ _ ub3
      have ub4 := blk_set ub3 3 (.slice a6 a7 a8)
      simp only [List.setIfInBounds_toArray, List.set_cons_zero, List.set_cons_succ] at uz0 uz1 uz2 uz3
      have uL := Lib.hid ub4
      clear ub0 ub1 ub2 ub3 ub4
      have F1c := (st4_other (W := wb) (b := r0) (c := r1) NN.out.2.2.2.1 (.bool a1) (.slice a2 a3 a4) (.bool a5) (.slice a6 a7 a8)).trans F1.out
      unfold st4 at F1c
      have vb0 := F1c
      have vz0 := cell_of_row _ (r1) 0 _ _ (0, 0) vb0
      have vg0 := frozen_of_row _ (r1) 0 _ _ vb0
      have vb1 := blk_set vb0 0 (.bool b1)
      have vz1 := cell_of_row _ (r1) 1 _ _ (0, 0) vb1
      have vg1 := frozen_of_row _ (r1) 1 _ _ vb1
      have vb2 := blk_set vb1 1 (.slice b2 b3 b4)
      have vz2 := cell_of_row _ (r1) 2 _ _ (0, 0) vb2
      have vg2 := frozen_of_row _ (r1) 2 _ _ vb2
      have vb3 := blk_set vb2 2 (.bool b5)
      have vz3 := cell_of_row _ (r1) 3 _ _ (0, 0) vb3
      have vg3 := frozen_of_row _ (r1) 3 _ _ vb3
      have vb4 := blk_set vb3 3 (.slice b6 b7 b8)
      simp only [List.setIfInBounds_toArray, List.set_cons_zero, List.set_cons_succ] at vz0 vz1 vz2 vz3
      have vL := Lib.hid vb4
      clear vb0 vb1 vb2 vb3 vb4
      have R0L : ((((((((wb.setCell ⟨r0, 0, none⟩ (.bool a1)).setCell ⟨r0, 1, none⟩ (.slice a2 a3 a4)).setCell ⟨r0, 2, none⟩ (.bool a5)).setCell ⟨r0, 3, none⟩ (.slice a6 a7 a8)).setCell ⟨r1, 0, none⟩ (.bool b1)).setCell ⟨r1, 1, none⟩ (.slice b2 b3 b4)).setCell ⟨r1, 2, none⟩ (.bool b5)).setCell ⟨r1, 3, none⟩ (.slice b6 b7 b8)).heap[r0]? = some (.cells #[.bool a1, .slice a2 a3 a4, .bool a5, .slice a6 a7 a8] 35 (0, 0)) := (st4_other (W := ((((wb.setCell ⟨r0, 0, none⟩ (.bool a1)).setCell ⟨r0, 1, none⟩ (.slice a2 a3 a4)).setCell ⟨r0, 2, none⟩ (.bool a5)).setCell ⟨r0, 3, none⟩ (.slice a6 a7 a8))) (b := r1) (c := r0) NN.out.2.2.1 (.bool b1) (.slice b2 b3 b4) (.bool b5) (.slice b6 b7 b8)).trans uL.out
      have R1L : ((((((((wb.setCell ⟨r0, 0, none⟩ (.bool a1)).setCell ⟨r0, 1, none⟩ (.slice a2 a3 a4)).setCell ⟨r0, 2, none⟩ (.bool a5)).setCell ⟨r0, 3, none⟩ (.slice a6 a7 a8)).setCell ⟨r1, 0, none⟩ (.bool b1)).setCell ⟨r1, 1, none⟩ (.slice b2 b3 b4)).setCell ⟨r1, 2, none⟩ (.bool b5)).setCell ⟨r1, 3, none⟩ (.slice b6 b7 b8)).heap[r1]? = some (.cells #[.bool b1, .slice b2 b3 b4, .bool b5, .slice b6 b7 b8] 35 (0, 0)) := vL.out
      have y0 := cell_of_row _ (r0) 0 _ _ (0, 0) R0L
      have y1 := cell_of_row _ (r0) 1 _ _ (0, 0) R0L
      have y2 := cell_of_row _ (r0) 2 _ _ (0, 0) R0L
      have y3 := cell_of_row _ (r0) 3 _ _ (0, 0) R0L
      have x0 := cell_of_row _ (r1) 0 _ _ (0, 0) R1L
      have x1 := cell_of_row _ (r1) 1 _ _ (0, 0) R1L
      have x2 := cell_of_row _ (r1) 2 _ _ (0, 0) R1L
      have x3 := cell_of_row _ (r1) 3 _ _ (0, 0) R1L
      have GF : Hid (Grow w ((((((((wb.setCell ⟨r0, 0, none⟩ (.bool a1)).setCell ⟨r0, 1, none⟩ (.slice a2 a3 a4)).setCell ⟨r0, 2, none⟩ (.bool a5)).setCell ⟨r0, 3, none⟩ (.slice a6 a7 a8)).setCell ⟨r1, 0, none⟩ (.bool b1)).setCell ⟨r1, 1, none⟩ (.slice b2 b3 b4)).setCell ⟨r1, 2, none⟩ (.bool b5)).setCell ⟨r1, 3, none⟩ (.slice b6 b7 b8))) := ((GW.out).st4 LE.out.2.2.1 _ _ _ _).st4 LE.out.2.2.2 _ _ _ _
      have GH : Hid (Grow w ((((wb.setCell ⟨r0, 0, none⟩ (.bool a1)).setCell ⟨r0, 1, none⟩ (.slice a2 a3 a4)).setCell ⟨r0, 2, none⟩ (.bool a5)).setCell ⟨r0, 3, none⟩ (.slice a6 a7 a8))) := (GW.out).st4 LE.out.2.2.1 _ _ _ _
      have N0 : BoxN wb r0 := ⟨_, _, _, F0.out, rat_noint _ _ _ _ _ _ _ _⟩
      have N1 : BoxN wb r1 := ⟨_, _, _, F1.out, rat_noint _ _ _ _ _ _ _ _⟩
      have RXF : Hid ((⟨⟨a1, a2, a3, a4⟩, ⟨a5, a6, a7, a8⟩, aq⟩ : RV).rd ((((((((wb.setCell ⟨r0, 0, none⟩ (.bool a1)).setCell ⟨r0, 1, none⟩ (.slice a2 a3 a4)).setCell ⟨r0, 2, none⟩ (.bool a5)).setCell ⟨r0, 3, none⟩ (.slice a6 a7 a8)).setCell ⟨r1, 0, none⟩ (.bool b1)).setCell ⟨r1, 1, none⟩ (.slice b2 b3 b4)).setCell ⟨r1, 2, none⟩ (.bool b5)).setCell ⟨r1, 3, none⟩ (.slice b6 b7 b8)) (fun x => S x ∨ w.heap.size ≤ x) k) := st4_rv (st4_rv RX.out N0 _ _ _ _ (sl_noint _ _ _) (sl_noint _ _ _)) (N1.st4 r0 _ _ _ _ (sl_noint _ _ _) (sl_noint _ _ _)) _ _ _ _ (sl_noint _ _ _) (sl_noint _ _ _)
      have RYF : Hid ((⟨⟨b1, b2, b3, b4⟩, ⟨b5, b6, b7, b8⟩, bq⟩ : RV).rd ((((((((wb.setCell ⟨r0, 0, none⟩ (.bool a1)).setCell ⟨r0, 1, none⟩ (.slice a2 a3 a4)).setCell ⟨r0, 2, none⟩ (.bool a5)).setCell ⟨r0, 3, none⟩ (.slice a6 a7 a8)).setCell ⟨r1, 0, none⟩ (.bool b1)).setCell ⟨r1, 1, none⟩ (.slice b2 b3 b4)).setCell ⟨r1, 2, none⟩ (.bool b5)).setCell ⟨r1, 3, none⟩ (.slice b6 b7 b8)) (fun x => S x ∨ w.heap.size ≤ x) k) := st4_rv (st4_rv RY.out N0 _ _ _ _ (sl_noint _ _ _) (sl_noint _ _ _)) (N1.st4 r0 _ _ _ _ (sl_noint _ _ _) (sl_noint _ _ _)) _ _ _ _ (sl_noint _ _ _) (sl_noint _ _ _)
      clear F1c N0 N1 R0L R1L
      apply lext_turn; exact rfl; exact rfl; exact rfl; intro K hK; go_simp; skip
      refine hK.out _ _ ⟨GH.out, .inr trivial, fun i hi => Or.elim hi (fun e => by rw [e]; exact st4_other NN.out.2.2.2.2.1.symm _ _ _ _) (fun e => by rw [e]; exact st4_other NN.out.2.2.2.2.2.1.symm _ _ _ _)⟩ ?_
      clear hK
      try simp only [Act.put, List.setIfInBounds_toArray, List.set_cons_zero, List.set_cons_succ]
      apply lext_turn; exact rfl; exact rfl; exact rfl; intro K hK; go_simp; skip
      refine hK.out _ _ ⟨GF.out, .inr trivial, fun i hi => Or.elim hi (fun e => by rw [e]; exact (st4_other NN.out.2.2.2.2.2.2.1.symm _ _ _ _).trans (st4_other NN.out.2.2.2.2.1.symm _ _ _ _)) (fun e => by rw [e]; exact (st4_other NN.out.2.2.2.2.2.2.2.symm _ _ _ _).trans (st4_other NN.out.2.2.2.2.2.1.symm _ _ _ _))⟩ ?_
      clear hK
      try simp only [Act.put, List.setIfInBounds_toArray, List.set_cons_zero, List.set_cons_succ]
      refine lext_nil ?_
      simp only [List.drop_succ_cons, List.drop_zero]
      go_wp2
      exact bodyPost_ret (v := .tuple #[.agg #[.bool a1, .slice a2 a3 a4, .bool a5, .slice a6 a7 a8], .agg #[.bool b1, .slice b2 b3 b4, .bool b5, .slice b6 b7 b8], .bool false]) (by simp [results, Try.f44, go_sem, y0, y1, y2, y3, x0, x1, x2, x3]) rfl (HR.out (⟨⟨a1, a2, a3, a4⟩, ⟨a5, a6, a7, a8⟩, aq⟩ : RV) (⟨⟨b1, b2, b3, b4⟩, ⟨b5, b6, b7, b8⟩, bq⟩ : RV) _ _ GF.out rfl RXF.out RYF.out)
  · have t1 : (p == q) = false := by rw [beq_eq_false_iff_ne]; exact hpq
    obtain ⟨bq', hbq⟩ : ∃ c, decide (q < p) = c := ⟨_, rfl⟩
    have HPQ := Lib.hid hpq
    have HPQ2 := Lib.hid hpq
    clear hpq
    cases bq' with
    | true =>
      have HV : Hid (slabX p q lo hi = (((hi - p : Int) : Rat) / ((q - p : Int) : Rat)) ∧ slabY p q lo hi = (((lo - p : Int) : Rat) / ((q - p : Int) : Rat))) := by
        show _ ∧ _
        unfold slabX slabY
        have h := of_decide_eq_true hbq
        simp only [if_pos h, and_self]
      go_enter Try.func44, Try.ntmps44
      go_wp2_with fail
      rw [← hwa]
      clear hwa
      rw [← hr1, ← hr0, ← hbb, ← hba]
      clear hba hbb hr0 hr1
      go_wp2_with fail
      go_at_call 75
      refine way_any p q hi _ HI.out.1 HI.out.2.1 HI.out.2.2.2 ?_
      intro v1 w1 hg1 hv1
      have G1 := Lib.hid hg1
      have V1 := Lib.hid hv1
      clear hg1 hv1 hbq t1
      go_wp2_with fail
      go_at_call 74
      refine right_q _ _ _ 5 _ w1 V1.out (by have := HPQ.out; omega) (by omega) ?_
      intro rs w2 hg2 hqs hrs
      obtain ⟨⟨s1, s2, s3, s4⟩, ⟨s5, s6, s7, s8⟩, sq⟩ := rs
      have G2 := Lib.hid (G1.out.tr hg2)
      have RS := Lib.hid (hrs.both)
      have QS := Lib.hid hqs
      have LS1 : Hid (w.heap.size ≤ wa.heap.size) := GA.out.size
      clear hg2 hrs hqs V1
      unfold RV.cells
      dsimp only at QS ⊢
      go_wp2_with fail
      go_at_call 75
      refine way_any p q lo _ HI.out.1 HI.out.2.1 HI.out.2.2.1 ?_
      intro v3 w3 hg3 hv3
      have LS3 : Hid (w.heap.size ≤ w2.heap.size) := (GA.out.tr G2.out).size
      have G3 := Lib.hid (G2.out.tr hg3)
      have V3 := Lib.hid hv3
      have RS := Lib.hid (RS.out.gr hg3)
      clear hg3 hv3
      go_wp2_with fail
      go_at_call 74
      refine right_q _ _ _ 5 _ w3 V3.out (by have := HPQ.out; omega) (by omega) ?_
      intro rt w4 hg4 hqt hrt
      obtain ⟨⟨t1, t2, t3, t4⟩, ⟨t5, t6, t7, t8⟩, tq⟩ := rt
      have G4 := Lib.hid (G3.out.tr hg4)
      have RS : Hid ((⟨⟨s1, s2, s3, s4⟩, ⟨s5, s6, s7, s8⟩, sq⟩ : RV).rd w4 (fun x => S x ∨ w.heap.size ≤ x) k) := ((RS.out.gr hg4).into fun x hx => .inr (by have := LS1.out; omega)).up HK.out.1
      have RTT : Hid ((⟨⟨t1, t2, t3, t4⟩, ⟨t5, t6, t7, t8⟩, tq⟩ : RV).rd w4 (fun x => S x ∨ w.heap.size ≤ x) k) := (hrt.into fun x hx => .inr (by have := LS3.out; omega)).up HK.out.1
      have RA : Hid ((⟨⟨a1, a2, a3, a4⟩, ⟨a5, a6, a7, a8⟩, aq⟩ : RV).rd w4 (fun x => S x ∨ w.heap.size ≤ x) k) := HA.out.gr (GA.out.tr G4.out)
      have RB : Hid ((⟨⟨b1, b2, b3, b4⟩, ⟨b5, b6, b7, b8⟩, bq⟩ : RV).rd w4 (fun x => S x ∨ w.heap.size ≤ x) k) := HB.out.gr (GA.out.tr G4.out)
      have QT := Lib.hid hqt
      clear hg4 hrt hqt V3 HA HB HI HPQ LS1 LS3
      unfold RV.cells
      dsimp only at QT ⊢
      have LT4 : Hid (ba < w4.heap.size ∧ bb < w4.heap.size ∧ r0 < w4.heap.size ∧ r1 < w4.heap.size) := by
        have := LT.out
        have := G4.out.size
        exact ⟨by omega, by omega, by omega, by omega⟩
      have GW4 := Lib.hid (GA.out.tr G4.out)
      have FA := Lib.hid (grow_blk G4.out FA.out)
      have FB := Lib.hid (grow_blk G4.out FB.out)
      have F0 := Lib.hid (grow_blk G4.out F0.out)
      have F1 := Lib.hid (grow_blk G4.out F1.out)
      clear GA G4 G1 G2 G3 LT SZ
      have FS : Hid (((w4.alloc (.cells #[.bool s1, .slice s2 s3 s4, .bool s5, .slice s6 s7 s8] 35)).alloc (.cells #[.bool t1, .slice t2 t3 t4, .bool t5, .slice t6 t7 t8] 35)).heap[w4.heap.size]? = some (.cells #[.bool s1, .slice s2 s3 s4, .bool s5, .slice s6 s7 s8] 35 (0, 0))) := blk_al w4 _ _ ((Grow.refl _).al _)
      have FT : Hid (((w4.alloc (.cells #[.bool s1, .slice s2 s3 s4, .bool s5, .slice s6 s7 s8] 35)).alloc (.cells #[.bool t1, .slice t2 t3 t4, .bool t5, .slice t6 t7 t8] 35)).heap[w4.heap.size + 1]? = some (.cells #[.bool t1, .slice t2 t3 t4, .bool t5, .slice t6 t7 t8] 35 (0, 0))) := by
        have := blk_al (w4.alloc (.cells #[.bool s1, .slice s2 s3 s4, .bool s5, .slice s6 s7 s8] 35)) #[.bool t1, .slice t2 t3 t4, .bool t5, .slice t6 t7 t8] 35 (Grow.refl _)
        rwa [World.size_alloc] at this
      have G5 : Hid (Grow w4 ((w4.alloc (.cells #[.bool s1, .slice s2 s3 s4, .bool s5, .slice s6 s7 s8] 35)).alloc (.cells #[.bool t1, .slice t2 t3 t4, .bool t5, .slice t6 t7 t8] 35))) := ((Grow.refl w4).al _).al _
      have NS : Hid (w4.heap.size ≠ w4.heap.size + 1 ∧ w4.heap.size + 1 ≠ w4.heap.size) := ⟨by omega, by omega⟩
      have NB : Hid (w4.heap.size ≠ ba ∧ w4.heap.size + 1 ≠ ba ∧ w4.heap.size ≠ bb ∧ w4.heap.size + 1 ≠ bb) := by
        have := LT4.out
        exact ⟨by omega, by omega, by omega, by omega⟩
      go_upto_region 7 with fail
      generalize ((w4.alloc (.cells #[.bool s1, .slice s2 s3 s4, .bool s5, .slice s6 s7 s8] 35)).alloc (.cells #[.bool t1, .slice t2 t3 t4, .bool t5, .slice t6 t7 t8] 35)) = w5 at *
      generalize w4.heap.size + 1 = bt at *
      obtain ⟨bs, hbs⟩ : ∃ x, x = w4.heap.size := ⟨_, rfl⟩
      rw [← hbs] at FS NS NB ⊢
      clear hbs
      have RS := Lib.hid (RS.out.gr G5.out)
      have RTT := Lib.hid (RTT.out.gr G5.out)
      have RA := Lib.hid (RA.out.gr G5.out)
      have RB := Lib.hid (RB.out.gr G5.out)
      have FA := Lib.hid (grow_blk G5.out FA.out)
      have FB := Lib.hid (grow_blk G5.out FB.out)
      have F0 := Lib.hid (grow_blk G5.out F0.out)
      have F1 := Lib.hid (grow_blk G5.out F1.out)
      have GW := Lib.hid (GW4.out.tr G5.out)
      clear GW4 G5 LT4
      obtain ⟨m1, hm1⟩ : ∃ m, cmpR sq aq = m := ⟨_, rfl⟩
      obtain ⟨m2, hm2⟩ : ∃ m, cmpR tq bq = m := ⟨_, rfl⟩
      obtain ⟨c1, hc1⟩ : ∃ c, decide (0 < m1) = c := ⟨_, rfl⟩
      obtain ⟨c2, hc2⟩ : ∃ c, decide (m2 < 0) = c := ⟨_, rfl⟩
      have E1 : Hid ((aq < sq) = (c1 = true)) := by show _ = _; rw [← hc1, decide_eq_true_eq, ← hm1, cmpR_gt]
      have E2 : Hid ((tq < bq) = (c2 = true)) := by show _ = _; rw [← hc2, decide_eq_true_eq, ← hm2, cmpR_lt]
      have O1 := Lib.hid fun W T (h1 : (⟨⟨s1, s2, s3, s4⟩, ⟨s5, s6, s7, s8⟩, sq⟩ : RV).rd W T k) (h2 : (⟨⟨a1, a2, a3, a4⟩, ⟨a5, a6, a7, a8⟩, aq⟩ : RV).rd W T k) (R : Ending → World → Prop) hR => order_q _ _ k k T T W h1 h2 HK.out.2 HK.out.2 (R := R) hR
      have O2 := Lib.hid fun W T (h1 : (⟨⟨t1, t2, t3, t4⟩, ⟨t5, t6, t7, t8⟩, tq⟩ : RV).rd W T k) (h2 : (⟨⟨b1, b2, b3, b4⟩, ⟨b5, b6, b7, b8⟩, bq⟩ : RV).rd W T k) (R : Ending → World → Prop) hR => order_q _ _ k k T T W h1 h2 HK.out.2 HK.out.2 (R := R) hR
      dsimp only at O1 O2
      rw [hm1] at O1
      rw [hm2] at O2
      unfold RV.cells at O1 O2
      dsimp only at O1 O2
      clear hm1 hm2
      have y0 := cell_of_row _ (bs) 0 _ _ (0, 0) FS.out
      have y1 := cell_of_row _ (bs) 1 _ _ (0, 0) FS.out
      have y2 := cell_of_row _ (bs) 2 _ _ (0, 0) FS.out
      have y3 := cell_of_row _ (bs) 3 _ _ (0, 0) FS.out
      have x0 := cell_of_row _ (ba) 0 _ _ (0, 0) FA.out
      have x1 := cell_of_row _ (ba) 1 _ _ (0, 0) FA.out
      have x2 := cell_of_row _ (ba) 2 _ _ (0, 0) FA.out
      have x3 := cell_of_row _ (ba) 3 _ _ (0, 0) FA.out
      go_wp2_with fail
      go_at_call 29
      refine O1.out _ _ RS.out RA.out _ ?_
      intro w6 hg6
      clear y0 y1 y2 y3 x0 x1 x2 x3 O1
      have RS := Lib.hid (RS.out.gr hg6)
      have RTT := Lib.hid (RTT.out.gr hg6)
      have RA := Lib.hid (RA.out.gr hg6)
      have RB := Lib.hid (RB.out.gr hg6)
      have FS := Lib.hid (grow_blk hg6 FS.out)
      have FT := Lib.hid (grow_blk hg6 FT.out)
      have FA := Lib.hid (grow_blk hg6 FA.out)
      have FB := Lib.hid (grow_blk hg6 FB.out)
      have F0 := Lib.hid (grow_blk hg6 F0.out)
      have F1 := Lib.hid (grow_blk hg6 F1.out)
      have GW := Lib.hid (GW.out.tr hg6)
      clear hg6
      cases c1 with
      | true =>
        have y0 := cell_of_row _ (bs) 0 _ _ (0, 0) FS.out
        have y1 := cell_of_row _ (bs) 1 _ _ (0, 0) FS.out
        have y2 := cell_of_row _ (bs) 2 _ _ (0, 0) FS.out
        have y3 := cell_of_row _ (bs) 3 _ _ (0, 0) FS.out
        have ub0 := FA.out
        have uz0 := cell_of_row _ (ba) 0 _ _ (0, 0) ub0
        have ug0 := frozen_of_row _ (ba) 0 _ _ ub0
        have ub1 := blk_set ub0 0 (.bool s1)
        have uz1 := cell_of_row _ (ba) 1 _ _ (0, 0) ub1
        have ug1 := frozen_of_row _ (ba) 1 _ _ ub1
        have ub2 := blk_set ub1 1 (.slice s2 s3 s4)
        have uz2 := cell_of_row _ (ba) 2 _ _ (0, 0) ub2
        have ug2 := frozen_of_row _ (ba) 2 _ _ ub2
        have ub3 := blk_set ub2 2 (.bool s5)
        have uz3 := cell_of_row _ (ba) 3 _ _ (0, 0) ub3
        have ug3 := frozen_of_row _ (ba) 3 _ _ ub3
        have ub4 := blk_set ub3 3 (.slice s6 s7 s8)
        simp only [List.setIfInBounds_toArray, List.set_cons_zero, List.set_cons_succ] at uz0 uz1 uz2 uz3
        have uL := Lib.hid ub4
        clear ub0 ub1 ub2 ub3 ub4
        have NBA : BoxN w6 ba := ⟨_, _, _, FA.out, rat_noint _ _ _ _ _ _ _ _⟩
        have RS : Hid ((⟨⟨s1, s2, s3, s4⟩, ⟨s5, s6, s7, s8⟩, sq⟩ : RV).rd ((((w6.setCell ⟨ba, 0, none⟩ (.bool s1)).setCell ⟨ba, 1, none⟩ (.slice s2 s3 s4)).setCell ⟨ba, 2, none⟩ (.bool s5)).setCell ⟨ba, 3, none⟩ (.slice s6 s7 s8)) (fun x => S x ∨ w.heap.size ≤ x) k) := st4_rv RS.out NBA _ _ _ _ (sl_noint _ _ _) (sl_noint _ _ _)
        have RTT : Hid ((⟨⟨t1, t2, t3, t4⟩, ⟨t5, t6, t7, t8⟩, tq⟩ : RV).rd ((((w6.setCell ⟨ba, 0, none⟩ (.bool s1)).setCell ⟨ba, 1, none⟩ (.slice s2 s3 s4)).setCell ⟨ba, 2, none⟩ (.bool s5)).setCell ⟨ba, 3, none⟩ (.slice s6 s7 s8)) (fun x => S x ∨ w.heap.size ≤ x) k) := st4_rv RTT.out NBA _ _ _ _ (sl_noint _ _ _) (sl_noint _ _ _)
        have RB : Hid ((⟨⟨b1, b2, b3, b4⟩, ⟨b5, b6, b7, b8⟩, bq⟩ : RV).rd ((((w6.setCell ⟨ba, 0, none⟩ (.bool s1)).setCell ⟨ba, 1, none⟩ (.slice s2 s3 s4)).setCell ⟨ba, 2, none⟩ (.bool s5)).setCell ⟨ba, 3, none⟩ (.slice s6 s7 s8)) (fun x => S x ∨ w.heap.size ≤ x) k) := st4_rv RB.out NBA _ _ _ _ (sl_noint _ _ _) (sl_noint _ _ _)
        have FT : Hid (((((w6.setCell ⟨ba, 0, none⟩ (.bool s1)).setCell ⟨ba, 1, none⟩ (.slice s2 s3 s4)).setCell ⟨ba, 2, none⟩ (.bool s5)).setCell ⟨ba, 3, none⟩ (.slice s6 s7 s8)).heap[bt]? = some (.cells #[.bool t1, .slice t2 t3 t4, .bool t5, .slice t6 t7 t8] 35 (0, 0))) := (st4_other NB.out.2.1 _ _ _ _).trans FT.out
        have FB : Hid (((((w6.setCell ⟨ba, 0, none⟩ (.bool s1)).setCell ⟨ba, 1, none⟩ (.slice s2 s3 s4)).setCell ⟨ba, 2, none⟩ (.bool s5)).setCell ⟨ba, 3, none⟩ (.slice s6 s7 s8)).heap[bb]? = some (.cells #[.bool b1, .slice b2 b3 b4, .bool b5, .slice b6 b7 b8] 35 (0, 0))) := (st4_other NN.out.2.1 _ _ _ _).trans FB.out
        have F0 : Hid (((((w6.setCell ⟨ba, 0, none⟩ (.bool s1)).setCell ⟨ba, 1, none⟩ (.slice s2 s3 s4)).setCell ⟨ba, 2, none⟩ (.bool s5)).setCell ⟨ba, 3, none⟩ (.slice s6 s7 s8)).heap[r0]? = some (.cells #[.bool false, .slice none 0 0, .bool false, .slice none 0 0] 35 (0, 0))) := (st4_other NN.out.2.2.2.2.1 _ _ _ _).trans F0.out
        have F1 : Hid (((((w6.setCell ⟨ba, 0, none⟩ (.bool s1)).setCell ⟨ba, 1, none⟩ (.slice s2 s3 s4)).setCell ⟨ba, 2, none⟩ (.bool s5)).setCell ⟨ba, 3, none⟩ (.slice s6 s7 s8)).heap[r1]? = some (.cells #[.bool false, .slice none 0 0, .bool false, .slice none 0 0] 35 (0, 0))) := (st4_other NN.out.2.2.2.2.2.2.1 _ _ _ _).trans F1.out
        have FA : Hid (((((w6.setCell ⟨ba, 0, none⟩ (.bool s1)).setCell ⟨ba, 1, none⟩ (.slice s2 s3 s4)).setCell ⟨ba, 2, none⟩ (.bool s5)).setCell ⟨ba, 3, none⟩ (.slice s6 s7 s8)).heap[ba]? = some (.cells #[.bool s1, .slice s2 s3 s4, .bool s5, .slice s6 s7 s8] 35 (0, 0))) := uL.out
        have GW : Hid (Grow w ((((w6.setCell ⟨ba, 0, none⟩ (.bool s1)).setCell ⟨ba, 1, none⟩ (.slice s2 s3 s4)).setCell ⟨ba, 2, none⟩ (.bool s5)).setCell ⟨ba, 3, none⟩ (.slice s6 s7 s8))) := GW.out.st4 LE.out.1 _ _ _ _
        clear NBA uL
        go_upto_region 9 with fail
        clear y0 y1 y2 y3 hc1 uz0 ug0 uz1 ug1 uz2 ug2 uz3 ug3
        generalize ((((w6.setCell ⟨ba, 0, none⟩ (.bool s1)).setCell ⟨ba, 1, none⟩ (.slice s2 s3 s4)).setCell ⟨ba, 2, none⟩ (.bool s5)).setCell ⟨ba, 3, none⟩ (.slice s6 s7 s8)) = w7 at *
        have y0 := cell_of_row _ (bt) 0 _ _ (0, 0) FT.out
        have y1 := cell_of_row _ (bt) 1 _ _ (0, 0) FT.out
        have y2 := cell_of_row _ (bt) 2 _ _ (0, 0) FT.out
        have y3 := cell_of_row _ (bt) 3 _ _ (0, 0) FT.out
        have x0 := cell_of_row _ (bb) 0 _ _ (0, 0) FB.out
        have x1 := cell_of_row _ (bb) 1 _ _ (0, 0) FB.out
        have x2 := cell_of_row _ (bb) 2 _ _ (0, 0) FB.out
        have x3 := cell_of_row _ (bb) 3 _ _ (0, 0) FB.out
        go_wp2_with fail
        go_at_call 29
        refine O2.out _ _ RTT.out RB.out _ ?_
        intro w8 hg8
        clear y0 y1 y2 y3 x0 x1 x2 x3 O2
        have RTT := Lib.hid (RTT.out.gr hg8)
        have RB := Lib.hid (RB.out.gr hg8)
        have RS := Lib.hid (RS.out.gr hg8)
        have FT := Lib.hid (grow_blk hg8 FT.out)
        have FA := Lib.hid (grow_blk hg8 FA.out)
        have FB := Lib.hid (grow_blk hg8 FB.out)
        have F0 := Lib.hid (grow_blk hg8 F0.out)
        have F1 := Lib.hid (grow_blk hg8 F1.out)
        have GW := Lib.hid (GW.out.tr hg8)
        clear hg8
        cases c2 with
        | true =>
          have y0 := cell_of_row _ (bt) 0 _ _ (0, 0) FT.out
          have y1 := cell_of_row _ (bt) 1 _ _ (0, 0) FT.out
          have y2 := cell_of_row _ (bt) 2 _ _ (0, 0) FT.out
          have y3 := cell_of_row _ (bt) 3 _ _ (0, 0) FT.out
          have ub0 := FB.out
          have uz0 := cell_of_row _ (bb) 0 _ _ (0, 0) ub0
          have ug0 := frozen_of_row _ (bb) 0 _ _ ub0
          have ub1 := blk_set ub0 0 (.bool t1)
          have uz1 := cell_of_row _ (bb) 1 _ _ (0, 0) ub1
          have ug1 := frozen_of_row _ (bb) 1 _ _ ub1
          have ub2 := blk_set ub1 1 (.slice t2 t3 t4)
          have uz2 := cell_of_row _ (bb) 2 _ _ (0, 0) ub2
          have ug2 := frozen_of_row _ (bb) 2 _ _ ub2
          have ub3 := blk_set ub2 2 (.bool t5)
          have uz3 := cell_of_row _ (bb) 3 _ _ (0, 0) ub3
          have ug3 := frozen_of_row _ (bb) 3 _ _ ub3
          have ub4 := blk_set ub3 3 (.slice t6 t7 t8)
          simp only [List.setIfInBounds_toArray, List.set_cons_zero, List.set_cons_succ] at uz0 uz1 uz2 uz3
          have uL := Lib.hid ub4
          clear ub0 ub1 ub2 ub3 ub4
          have NBB : BoxN w8 bb := ⟨_, _, _, FB.out, rat_noint _ _ _ _ _ _ _ _⟩
          have RS : Hid ((⟨⟨s1, s2, s3, s4⟩, ⟨s5, s6, s7, s8⟩, sq⟩ : RV).rd ((((w8.setCell ⟨bb, 0, none⟩ (.bool t1)).setCell ⟨bb, 1, none⟩ (.slice t2 t3 t4)).setCell ⟨bb, 2, none⟩ (.bool t5)).setCell ⟨bb, 3, none⟩ (.slice t6 t7 t8)) (fun x => S x ∨ w.heap.size ≤ x) k) := st4_rv RS.out NBB _ _ _ _ (sl_noint _ _ _) (sl_noint _ _ _)
          have RTT : Hid ((⟨⟨t1, t2, t3, t4⟩, ⟨t5, t6, t7, t8⟩, tq⟩ : RV).rd ((((w8.setCell ⟨bb, 0, none⟩ (.bool t1)).setCell ⟨bb, 1, none⟩ (.slice t2 t3 t4)).setCell ⟨bb, 2, none⟩ (.bool t5)).setCell ⟨bb, 3, none⟩ (.slice t6 t7 t8)) (fun x => S x ∨ w.heap.size ≤ x) k) := st4_rv RTT.out NBB _ _ _ _ (sl_noint _ _ _) (sl_noint _ _ _)
          have FA : Hid (((((w8.setCell ⟨bb, 0, none⟩ (.bool t1)).setCell ⟨bb, 1, none⟩ (.slice t2 t3 t4)).setCell ⟨bb, 2, none⟩ (.bool t5)).setCell ⟨bb, 3, none⟩ (.slice t6 t7 t8)).heap[ba]? = some (.cells #[.bool s1, .slice s2 s3 s4, .bool s5, .slice s6 s7 s8] 35 (0, 0))) := (st4_other NN.out.1 _ _ _ _).trans FA.out
          have F0 : Hid (((((w8.setCell ⟨bb, 0, none⟩ (.bool t1)).setCell ⟨bb, 1, none⟩ (.slice t2 t3 t4)).setCell ⟨bb, 2, none⟩ (.bool t5)).setCell ⟨bb, 3, none⟩ (.slice t6 t7 t8)).heap[r0]? = some (.cells #[.bool false, .slice none 0 0, .bool false, .slice none 0 0] 35 (0, 0))) := (st4_other NN.out.2.2.2.2.2.1 _ _ _ _).trans F0.out
          have F1 : Hid (((((w8.setCell ⟨bb, 0, none⟩ (.bool t1)).setCell ⟨bb, 1, none⟩ (.slice t2 t3 t4)).setCell ⟨bb, 2, none⟩ (.bool t5)).setCell ⟨bb, 3, none⟩ (.slice t6 t7 t8)).heap[r1]? = some (.cells #[.bool false, .slice none 0 0, .bool false, .slice none 0 0] 35 (0, 0))) := (st4_other NN.out.2.2.2.2.2.2.2 _ _ _ _).trans F1.out
          have FB : Hid (((((w8.setCell ⟨bb, 0, none⟩ (.bool t1)).setCell ⟨bb, 1, none⟩ (.slice t2 t3 t4)).setCell ⟨bb, 2, none⟩ (.bool t5)).setCell ⟨bb, 3, none⟩ (.slice t6 t7 t8)).heap[bb]? = some (.cells #[.bool t1, .slice t2 t3 t4, .bool t5, .slice t6 t7 t8] 35 (0, 0))) := uL.out
          have GW : Hid (Grow w ((((w8.setCell ⟨bb, 0, none⟩ (.bool t1)).setCell ⟨bb, 1, none⟩ (.slice t2 t3 t4)).setCell ⟨bb, 2, none⟩ (.bool t5)).setCell ⟨bb, 3, none⟩ (.slice t6 t7 t8))) := GW.out.st4 LE.out.2.1 _ _ _ _
          clear NBB uL
          go_upto_region 11 with fail
          clear y0 y1 y2 y3 hc2 uz0 ug0 uz1 ug1 uz2 ug2 uz3 ug3
          generalize ((((w8.setCell ⟨bb, 0, none⟩ (.bool t1)).setCell ⟨bb, 1, none⟩ (.slice t2 t3 t4)).setCell ⟨bb, 2, none⟩ (.bool t5)).setCell ⟨bb, 3, none⟩ (.slice t6 t7 t8)) = w9 at *
          have RX := Lib.hid RS.out
          have RY := Lib.hid RTT.out
          have EV : Hid (slabQ aq bq p q lo hi = (sq, tq, decide (cmpR sq tq ≤ 0))) := by
            show _ = _
            unfold slabQ
            rw [if_neg HPQ2.out, HV.out.1, HV.out.2, ← QS.out, ← QT.out]
            simp only [E1.out, E2.out, if_true, cmpR_le]
          rw [EV.out] at HR
          have O3 := Lib.hid fun W T (h1 : (⟨⟨s1, s2, s3, s4⟩, ⟨s5, s6, s7, s8⟩, sq⟩ : RV).rd W T k) (h2 : (⟨⟨t1, t2, t3, t4⟩, ⟨t5, t6, t7, t8⟩, tq⟩ : RV).rd W T k) (R : Ending → World → Prop) hR => order_q _ _ k k T T W h1 h2 HK.out.2 HK.out.2 (R := R) hR
          dsimp only at O3
          generalize cmpR sq tq = m3 at *
          unfold RV.cells at O3
          dsimp only at O3
          clear EV E1 E2 QS QT HV
          have HG := Lib.hid ((Grow.refl w9).dr)
          have RX := Lib.hid (RX.out.gr HG.out)
          have RY := Lib.hid (RY.out.gr HG.out)
          have FA := Lib.hid (grow_blk HG.out FA.out)
          have FB := Lib.hid (grow_blk HG.out FB.out)
          have F0 := Lib.hid (grow_blk HG.out F0.out)
          have F1 := Lib.hid (grow_blk HG.out F1.out)
          have GW := Lib.hid (GW.out.tr HG.out)
          clear HG
          refine wp_region_lexT (fun W => Grow w W ∧ (∀ i, i = ba ∨ i = bb → W.heap[i]? = w9.drew.heap[i]?)) (⟨GW.out, fun _ _ => rfl⟩) 8 [0, 1, 2, 3, 4, 5, 6, 7] (by kernel_rfl) (by kernel_rfl) (by intro c a d v w h; cases d <;> exact h) ?_
          iterate 4 (apply lext_take; exact rfl; exact rfl; (intro W hW; have fa := (hW.2 ba (.inl rfl)).trans FA.out; have fb := (hW.2 bb (.inr rfl)).trans FB.out; have z0 := cell_of_row _ ba 0 _ _ (0, 0) fa; have y0 := cell_of_row _ bb 0 _ _ (0, 0) fb; have z1 := cell_of_row _ ba 1 _ _ (0, 0) fa; have y1 := cell_of_row _ bb 1 _ _ (0, 0) fb; have z2 := cell_of_row _ ba 2 _ _ (0, 0) fa; have y2 := cell_of_row _ bb 2 _ _ (0, 0) fb; have z3 := cell_of_row _ ba 3 _ _ (0, 0) fa; have y3 := cell_of_row _ bb 3 _ _ (0, 0) fb; clear fa fb; (try clear hW); go_simp; with_reducible rfl); try simp only [Act.put, List.setIfInBounds_toArray, List.set_cons_zero, List.set_cons_succ])
          generalize w9.drew = wb at *
          apply lext_turn; exact rfl; exact rfl; exact rfl; intro K hK; go_simp; go_at_call 29; refine O3.out _ _ RX.out RY.out _ ?_; intro wc hgc
          have FE : Hid (∀ i, i = ba ∨ i = bb → wc.heap[i]? = wb.heap[i]?) := fun i hi => Or.elim hi (fun e => by rw [e]; exact hgc.block _ (lt_of_block FA.out)) (fun e => by rw [e]; exact hgc.block _ (lt_of_block FB.out))
          have RX := Lib.hid (RX.out.gr hgc)
          have RY := Lib.hid (RY.out.gr hgc)
          have F0 := Lib.hid (grow_blk hgc F0.out)
          have F1 := Lib.hid (grow_blk hgc F1.out)
          have GW := Lib.hid (GW.out.tr hgc)
          refine hK.out _ _ ⟨GW.out, FE.out⟩ ?_
          clear hK hgc O3
          try simp only [Act.put, List.setIfInBounds_toArray, List.set_cons_zero, List.set_cons_succ]
          iterate 1 (apply lext_take; exact rfl; exact rfl; (intro W hW; (try clear hW); go_simp; with_reducible rfl); try simp only [Act.put, List.setIfInBounds_toArray, List.set_cons_zero, List.set_cons_succ])
          have ub0 := F0.out
          have uz0 := cell_of_row _ (r0) 0 _ _ (0, 0) ub0
          have ug0 := frozen_of_row _ (r0) 0 _ _ ub0
          have ub1 := blk_set ub0 0 (.bool s1)
          have uz1 := cell_of_row _ (r0) 1 _ _ (0, 0) ub1
          have ug1 := frozen_of_row _ (r0) 1 _ _ ub1
          have ub2 := blk_set ub1 1 (.slice s2 s3 s4)
          have uz2 := cell_of_row _ (r0) 2 _ _ (0, 0) ub2
          have ug2 := frozen_of_row _ (r0) 2 _ _ ub2
          have ub3 := blk_set ub2 2 (.bool s5)
          have uz3 := cell_of_row _ (r0) 3 _ _ (0, 0) ub3
          have ug3 := frozen_of_row _ (r0) 3 _ _ ub3
          have ub4 := blk_set ub3 3 (.slice s6 s7 s8)
          simp only [List.setIfInBounds_toArray, List.set_cons_zero, List.set_cons_succ] at uz0 uz1 uz2 uz3
          have uL := Lib.hid ub4
          clear ub0 ub1 ub2 ub3 ub4
          have F1c := (st4_other (W := wc) (b := r0) (c := r1) NN.out.2.2.2.1 (.bool s1) (.slice s2 s3 s4) (.bool s5) (.slice s6 s7 s8)).trans F1.out
          unfold st4 at F1c
          have vb0 := F1c
          have vz0 := cell_of_row _ (r1) 0 _ _ (0, 0) vb0
          have vg0 := frozen_of_row _ (r1) 0 _ _ vb0
          have vb1 := blk_set vb0 0 (.bool t1)
          have vz1 := cell_of_row _ (r1) 1 _ _ (0, 0) vb1
          have vg1 := frozen_of_row _ (r1) 1 _ _ vb1
          have vb2 := blk_set vb1 1 (.slice t2 t3 t4)
          have vz2 := cell_of_row _ (r1) 2 _ _ (0, 0) vb2
          have vg2 := frozen_of_row _ (r1) 2 _ _ vb2
          have vb3 := blk_set vb2 2 (.bool t5)
          have vz3 := cell_of_row _ (r1) 3 _ _ (0, 0) vb3
          have vg3 := frozen_of_row _ (r1) 3 _ _ vb3
          have vb4 := blk_set vb3 3 (.slice t6 t7 t8)
          simp only [List.setIfInBounds_toArray, List.set_cons_zero, List.set_cons_succ] at vz0 vz1 vz2 vz3
          have vL := Lib.hid vb4
          clear vb0 vb1 vb2 vb3 vb4
          have R0L : ((((((((wc.setCell ⟨r0, 0, none⟩ (.bool s1)).setCell ⟨r0, 1, none⟩ (.slice s2 s3 s4)).setCell ⟨r0, 2, none⟩ (.bool s5)).setCell ⟨r0, 3, none⟩ (.slice s6 s7 s8)).setCell ⟨r1, 0, none⟩ (.bool t1)).setCell ⟨r1, 1, none⟩ (.slice t2 t3 t4)).setCell ⟨r1, 2, none⟩ (.bool t5)).setCell ⟨r1, 3, none⟩ (.slice t6 t7 t8)).heap[r0]? = some (.cells #[.bool s1, .slice s2 s3 s4, .bool s5, .slice s6 s7 s8] 35 (0, 0)) := (st4_other (W := ((((wc.setCell ⟨r0, 0, none⟩ (.bool s1)).setCell ⟨r0, 1, none⟩ (.slice s2 s3 s4)).setCell ⟨r0, 2, none⟩ (.bool s5)).setCell ⟨r0, 3, none⟩ (.slice s6 s7 s8))) (b := r1) (c := r0) NN.out.2.2.1 (.bool t1) (.slice t2 t3 t4) (.bool t5) (.slice t6 t7 t8)).trans uL.out
          have R1L : ((((((((wc.setCell ⟨r0, 0, none⟩ (.bool s1)).setCell ⟨r0, 1, none⟩ (.slice s2 s3 s4)).setCell ⟨r0, 2, none⟩ (.bool s5)).setCell ⟨r0, 3, none⟩ (.slice s6 s7 s8)).setCell ⟨r1, 0, none⟩ (.bool t1)).setCell ⟨r1, 1, none⟩ (.slice t2 t3 t4)).setCell ⟨r1, 2, none⟩ (.bool t5)).setCell ⟨r1, 3, none⟩ (.slice t6 t7 t8)).heap[r1]? = some (.cells #[.bool t1, .slice t2 t3 t4, .bool t5, .slice t6 t7 t8] 35 (0, 0)) := vL.out
          have y0 := cell_of_row _ (r0) 0 _ _ (0, 0) R0L
          have y1 := cell_of_row _ (r0) 1 _ _ (0, 0) R0L
          have y2 := cell_of_row _ (r0) 2 _ _ (0, 0) R0L
          have y3 := cell_of_row _ (r0) 3 _ _ (0, 0) R0L
          have x0 := cell_of_row _ (r1) 0 _ _ (0, 0) R1L
          have x1 := cell_of_row _ (r1) 1 _ _ (0, 0) R1L
          have x2 := cell_of_row _ (r1) 2 _ _ (0, 0) R1L
          have x3 := cell_of_row _ (r1) 3 _ _ (0, 0) R1L
          have GF : Hid (Grow w ((((((((wc.setCell ⟨r0, 0, none⟩ (.bool s1)).setCell ⟨r0, 1, none⟩ (.slice s2 s3 s4)).setCell ⟨r0, 2, none⟩ (.bool s5)).setCell ⟨r0, 3, none⟩ (.slice s6 s7 s8)).setCell ⟨r1, 0, none⟩ (.bool t1)).setCell ⟨r1, 1, none⟩ (.slice t2 t3 t4)).setCell ⟨r1, 2, none⟩ (.bool t5)).setCell ⟨r1, 3, none⟩ (.slice t6 t7 t8))) := ((GW.out).st4 LE.out.2.2.1 _ _ _ _).st4 LE.out.2.2.2 _ _ _ _
          have GH : Hid (Grow w ((((wc.setCell ⟨r0, 0, none⟩ (.bool s1)).setCell ⟨r0, 1, none⟩ (.slice s2 s3 s4)).setCell ⟨r0, 2, none⟩ (.bool s5)).setCell ⟨r0, 3, none⟩ (.slice s6 s7 s8))) := (GW.out).st4 LE.out.2.2.1 _ _ _ _
          have N0 : BoxN wc r0 := ⟨_, _, _, F0.out, rat_noint _ _ _ _ _ _ _ _⟩
          have N1 : BoxN wc r1 := ⟨_, _, _, F1.out, rat_noint _ _ _ _ _ _ _ _⟩
          have RXF : Hid ((⟨⟨s1, s2, s3, s4⟩, ⟨s5, s6, s7, s8⟩, sq⟩ : RV).rd ((((((((wc.setCell ⟨r0, 0, none⟩ (.bool s1)).setCell ⟨r0, 1, none⟩ (.slice s2 s3 s4)).setCell ⟨r0, 2, none⟩ (.bool s5)).setCell ⟨r0, 3, none⟩ (.slice s6 s7 s8)).setCell ⟨r1, 0, none⟩ (.bool t1)).setCell ⟨r1, 1, none⟩ (.slice t2 t3 t4)).setCell ⟨r1, 2, none⟩ (.bool t5)).setCell ⟨r1, 3, none⟩ (.slice t6 t7 t8)) (fun x => S x ∨ w.heap.size ≤ x) k) := st4_rv (st4_rv RX.out N0 _ _ _ _ (sl_noint _ _ _) (sl_noint _ _ _)) (N1.st4 r0 _ _ _ _ (sl_noint _ _ _) (sl_noint _ _ _)) _ _ _ _ (sl_noint _ _ _) (sl_noint _ _ _)
          have RYF : Hid ((⟨⟨t1, t2, t3, t4⟩, ⟨t5, t6, t7, t8⟩, tq⟩ : RV).rd ((((((((wc.setCell ⟨r0, 0, none⟩ (.bool s1)).setCell ⟨r0, 1, none⟩ (.slice s2 s3 s4)).setCell ⟨r0, 2, none⟩ (.bool s5)).setCell ⟨r0, 3, none⟩ (.slice s6 s7 s8)).setCell ⟨r1, 0, none⟩ (.bool t1)).setCell ⟨r1, 1, none⟩ (.slice t2 t3 t4)).setCell ⟨r1, 2, none⟩ (.bool t5)).setCell ⟨r1, 3, none⟩ (.slice t6 t7 t8)) (fun x => S x ∨ w.heap.size ≤ x) k) := st4_rv (st4_rv RY.out N0 _ _ _ _ (sl_noint _ _ _) (sl_noint _ _ _)) (N1.st4 r0 _ _ _ _ (sl_noint _ _ _) (sl_noint _ _ _)) _ _ _ _ (sl_noint _ _ _) (sl_noint _ _ _)
          clear F1c N0 N1 R0L R1L
          apply lext_turn; exact rfl; exact rfl; exact rfl; intro K hK; go_simp; skip
          refine hK.out _ _ ⟨GH.out, fun i hi => Or.elim hi (fun e => by rw [e]; exact (st4_other NN.out.2.2.2.2.1.symm _ _ _ _).trans (FE.out _ (.inl rfl))) (fun e => by rw [e]; exact (st4_other NN.out.2.2.2.2.2.1.symm _ _ _ _).trans (FE.out _ (.inr rfl)))⟩ ?_
          clear hK
          try simp only [Act.put, List.setIfInBounds_toArray, List.set_cons_zero, List.set_cons_succ]
          apply lext_turn; exact rfl; exact rfl; exact rfl; intro K hK; go_simp; skip
          refine hK.out _ _ ⟨GF.out, fun i hi => Or.elim hi (fun e => by rw [e]; exact (st4_other NN.out.2.2.2.2.2.2.1.symm _ _ _ _).trans ((st4_other NN.out.2.2.2.2.1.symm _ _ _ _).trans (FE.out _ (.inl rfl)))) (fun e => by rw [e]; exact (st4_other NN.out.2.2.2.2.2.2.2.symm _ _ _ _).trans ((st4_other NN.out.2.2.2.2.2.1.symm _ _ _ _).trans (FE.out _ (.inr rfl))))⟩ ?_
          clear hK
          try simp only [Act.put, List.setIfInBounds_toArray, List.set_cons_zero, List.set_cons_succ]
          refine lext_nil ?_
          simp only [List.drop_succ_cons, List.drop_zero]
          go_wp2
          exact bodyPost_ret (v := .tuple #[.agg #[.bool s1, .slice s2 s3 s4, .bool s5, .slice s6 s7 s8], .agg #[.bool t1, .slice t2 t3 t4, .bool t5, .slice t6 t7 t8], .bool (decide (m3 ≤ 0))]) (by simp [results, Try.f44, go_sem, y0, y1, y2, y3, x0, x1, x2, x3]) rfl (HR.out (⟨⟨s1, s2, s3, s4⟩, ⟨s5, s6, s7, s8⟩, sq⟩ : RV) (⟨⟨t1, t2, t3, t4⟩, ⟨t5, t6, t7, t8⟩, tq⟩ : RV) _ _ GF.out rfl RXF.out RYF.out)
        | false =>
          go_upto_region 11 with fail
          clear hc2
          generalize w8 = w9 at *
          have RX := Lib.hid RS.out
          have RY := Lib.hid RB.out
          have EV : Hid (slabQ aq bq p q lo hi = (sq, bq, decide (cmpR sq bq ≤ 0))) := by
            show _ = _
            unfold slabQ
            rw [if_neg HPQ2.out, HV.out.1, HV.out.2, ← QS.out, ← QT.out]
            simp only [E1.out, E2.out, if_true, Bool.false_eq_true, if_false, cmpR_le]
          rw [EV.out] at HR
          have O3 := Lib.hid fun W T (h1 : (⟨⟨s1, s2, s3, s4⟩, ⟨s5, s6, s7, s8⟩, sq⟩ : RV).rd W T k) (h2 : (⟨⟨b1, b2, b3, b4⟩, ⟨b5, b6, b7, b8⟩, bq⟩ : RV).rd W T k) (R : Ending → World → Prop) hR => order_q _ _ k k T T W h1 h2 HK.out.2 HK.out.2 (R := R) hR
          dsimp only at O3
          generalize cmpR sq bq = m3 at *
          unfold RV.cells at O3
          dsimp only at O3
          clear EV E1 E2 QS QT HV
          have HG := Lib.hid ((Grow.refl w9).dr)
          have RX := Lib.hid (RX.out.gr HG.out)
          have RY := Lib.hid (RY.out.gr HG.out)
          have FA := Lib.hid (grow_blk HG.out FA.out)
          have FB := Lib.hid (grow_blk HG.out FB.out)
          have F0 := Lib.hid (grow_blk HG.out F0.out)
          have F1 := Lib.hid (grow_blk HG.out F1.out)
          have GW := Lib.hid (GW.out.tr HG.out)
          clear HG
          refine wp_region_lexT (fun W => Grow w W ∧ (∀ i, i = ba ∨ i = bb → W.heap[i]? = w9.drew.heap[i]?)) (⟨GW.out, fun _ _ => rfl⟩) 8 [0, 1, 2, 3, 4, 5, 6, 7] (by kernel_rfl) (by kernel_rfl) (by intro c a d v w h; cases d <;> exact h) ?_
          iterate 4 (apply lext_take; exact rfl; exact rfl; (intro W hW; have fa := (hW.2 ba (.inl rfl)).trans FA.out; have fb := (hW.2 bb (.inr rfl)).trans FB.out; have z0 := cell_of_row _ ba 0 _ _ (0, 0) fa; have y0 := cell_of_row _ bb 0 _ _ (0, 0) fb; have z1 := cell_of_row _ ba 1 _ _ (0, 0) fa; have y1 := cell_of_row _ bb 1 _ _ (0, 0) fb; have z2 := cell_of_row _ ba 2 _ _ (0, 0) fa; have y2 := cell_of_row _ bb 2 _ _ (0, 0) fb; have z3 := cell_of_row _ ba 3 _ _ (0, 0) fa; have y3 := cell_of_row _ bb 3 _ _ (0, 0) fb; clear fa fb; (try clear hW); go_simp; with_reducible rfl); try simp only [Act.put, List.setIfInBounds_toArray, List.set_cons_zero, List.set_cons_succ])
          generalize w9.drew = wb at *
          apply lext_turn; exact rfl; exact rfl; exact rfl; intro K hK; go_simp; go_at_call 29; refine O3.out _ _ RX.out RY.out _ ?_; intro wc hgc
          have FE : Hid (∀ i, i = ba ∨ i = bb → wc.heap[i]? = wb.heap[i]?) := fun i hi => Or.elim hi (fun e => by rw [e]; exact hgc.block _ (lt_of_block FA.out)) (fun e => by rw [e]; exact hgc.block _ (lt_of_block FB.out))
          have RX := Lib.hid (RX.out.gr hgc)
          have RY := Lib.hid (RY.out.gr hgc)
          have F0 := Lib.hid (grow_blk hgc F0.out)
          have F1 := Lib.hid (grow_blk hgc F1.out)
          have GW := Lib.hid (GW.out.tr hgc)
          refine hK.out _ _ ⟨GW.out, FE.out⟩ ?_
          clear hK hgc O3
          try simp only [Act.put, List.setIfInBounds_toArray, List.set_cons_zero, List.set_cons_succ]
          iterate 1 (apply lext_take; exact rfl; exact rfl; (intro W hW; (try clear hW); go_simp; with_reducible rfl); try simp only [Act.put, List.setIfInBounds_toArray, List.set_cons_zero, List.set_cons_succ])
          have ub0 := F0.out
          have uz0 := cell_of_row _ (r0) 0 _ _ (0, 0) ub0
          have ug0 := frozen_of_row _ (r0) 0 _ _ ub0
          have ub1 := blk_set ub0 0 (.bool s1)
          have uz1 := cell_of_row _ (r0) 1 _ _ (0, 0) ub1
          have ug1 := frozen_of_row _ (r0) 1 _ _ ub1
          have ub2 := blk_set ub1 1 (.slice s2 s3 s4)
          have uz2 := cell_of_row _ (r0) 2 _ _ (0, 0) ub2
          have ug2 := frozen_of_row _ (r0) 2 _ _ ub2
          have ub3 := blk_set ub2 2 (.bool s5)
          have uz3 := cell_of_row _ (r0) 3 _ _ (0, 0) ub3
          have ug3 := frozen_of_row _ (r0) 3 _ _ ub3
          have ub4 := blk_set ub3 3 (.slice s6 s7 s8)
          simp only [List.setIfInBounds_toArray, List.set_cons_zero, List.set_cons_succ] at uz0 uz1 uz2 uz3
          have uL := Lib.hid ub4
          clear ub0 ub1 ub2 ub3 ub4
          have F1c := (st4_other (W := wc) (b := r0) (c := r1) NN.out.2.2.2.1 (.bool s1) (.slice s2 s3 s4) (.bool s5) (.slice s6 s7 s8)).trans F1.out
          unfold st4 at F1c
          have vb0 := F1c
          have vz0 := cell_of_row _ (r1) 0 _ _ (0, 0) vb0
          have vg0 := frozen_of_row _ (r1) 0 _ _ vb0
          have vb1 := blk_set vb0 0 (.bool b1)
          have vz1 := cell_of_row _ (r1) 1 _ _ (0, 0) vb1
          have vg1 := frozen_of_row _ (r1) 1 _ _ vb1
          have vb2 := blk_set vb1 1 (.slice b2 b3 b4)
          have vz2 := cell_of_row _ (r1) 2 _ _ (0, 0) vb2
          have vg2 := frozen_of_row _ (r1) 2 _ _ vb2
          have vb3 := blk_set vb2 2 (.bool b5)
          have vz3 := cell_of_row _ (r1) 3 _ _ (0, 0) vb3
          have vg3 := frozen_of_row _ (r1) 3 _ _ vb3
          have vb4 := blk_set vb3 3 (.slice b6 b7 b8)
          simp only [List.setIfInBounds_toArray, List.set_cons_zero, List.set_cons_succ] at vz0 vz1 vz2 vz3
          have vL := Lib.hid vb4
          clear vb0 vb1 vb2 vb3 vb4
          have R0L : ((((((((wc.setCell ⟨r0, 0, none⟩ (.bool s1)).setCell ⟨r0, 1, none⟩ (.slice s2 s3 s4)).setCell ⟨r0, 2, none⟩ (.bool s5)).setCell ⟨r0, 3, none⟩ (.slice s6 s7 s8)).setCell ⟨r1, 0, none⟩ (.bool b1)).setCell ⟨r1, 1, none⟩ (.slice b2 b3 b4)).setCell ⟨r1, 2, none⟩ (.bool b5)).setCell ⟨r1, 3, none⟩ (.slice b6 b7 b8)).heap[r0]? = some (.cells #[.bool s1, .slice s2 s3 s4, .bool s5, .slice s6 s7 s8] 35 (0, 0)) := (st4_other (W := ((((wc.setCell ⟨r0, 0, none⟩ (.bool s1)).setCell ⟨r0, 1, none⟩ (.slice s2 s3 s4)).setCell ⟨r0, 2, none⟩ (.bool s5)).setCell ⟨r0, 3, none⟩ (.slice s6 s7 s8))) (b := r1) (c := r0) NN.out.2.2.1 (.bool b1) (.slice b2 b3 b4) (.bool b5) (.slice b6 b7 b8)).trans uL.out
          have R1L : ((((((((wc.setCell ⟨r0, 0, none⟩ (.bool s1)).setCell ⟨r0, 1, none⟩ (.slice s2 s3 s4)).setCell ⟨r0, 2, none⟩ (.bool s5)).setCell ⟨r0, 3, none⟩ (.slice s6 s7 s8)).setCell ⟨r1, 0, none⟩ (.bool b1)).setCell ⟨r1, 1, none⟩ (.slice b2 b3 b4)).setCell ⟨r1, 2, none⟩ (.bool b5)).setCell ⟨r1, 3, none⟩ (.slice b6 b7 b8)).heap[r1]? = some (.cells #[.bool b1, .slice b2 b3 b4, .bool b5, .slice b6 b7 b8] 35 (0, 0)) := vL.out
          have y0 := cell_of_row _ (r0) 0 _ _ (0, 0) R0L
          have y1 := cell_of_row _ (r0) 1 _ _ (0, 0) R0L
          have y2 := cell_of_row _ (r0) 2 _ _ (0, 0) R0L
          have y3 := cell_of_row _ (r0) 3 _ _ (0, 0) R0L
          have x0 := cell_of_row _ (r1) 0 _ _ (0, 0) R1L
          have x1 := cell_of_row _ (r1) 1 _ _ (0, 0) R1L
          have x2 := cell_of_row _ (r1) 2 _ _ (0, 0) R1L
          have x3 := cell_of_row _ (r1) 3 _ _ (0, 0) R1L
          have GF : Hid (Grow w ((((((((wc.setCell ⟨r0, 0, none⟩ (.bool s1)).setCell ⟨r0, 1, none⟩ (.slice s2 s3 s4)).setCell ⟨r0, 2, none⟩ (.bool s5)).setCell ⟨r0, 3, none⟩ (.slice s6 s7 s8)).setCell ⟨r1, 0, none⟩ (.bool b1)).setCell ⟨r1, 1, none⟩ (.slice b2 b3 b4)).setCell ⟨r1, 2, none⟩ (.bool b5)).setCell ⟨r1, 3, none⟩ (.slice b6 b7 b8))) := ((GW.out).st4 LE.out.2.2.1 _ _ _ _).st4 LE.out.2.2.2 _ _ _ _
          have GH : Hid (Grow w ((((wc.setCell ⟨r0, 0, none⟩ (.bool s1)).setCell ⟨r0, 1, none⟩ (.slice s2 s3 s4)).setCell ⟨r0, 2, none⟩ (.bool s5)).setCell ⟨r0, 3, none⟩ (.slice s6 s7 s8))) := (GW.out).st4 LE.out.2.2.1 _ _ _ _
          have N0 : BoxN wc r0 := ⟨_, _, _, F0.out, rat_noint _ _ _ _ _ _ _ _⟩
          have N1 : BoxN wc r1 := ⟨_, _, _, F1.out, rat_noint _ _ _ _ _ _ _ _⟩
          have RXF : Hid ((⟨⟨s1, s2, s3, s4⟩, ⟨s5, s6, s7, s8⟩, sq⟩ : RV).rd ((((((((wc.setCell ⟨r0, 0, none⟩ (.bool s1)).setCell ⟨r0, 1, none⟩ (.slice s2 s3 s4)).setCell ⟨r0, 2, none⟩ (.bool s5)).setCell ⟨r0, 3, none⟩ (.slice s6 s7 s8)).setCell ⟨r1, 0, none⟩ (.bool b1)).setCell ⟨r1, 1, none⟩ (.slice b2 b3 b4)).setCell ⟨r1, 2, none⟩ (.bool b5)).setCell ⟨r1, 3, none⟩ (.slice b6 b7 b8)) (fun x => S x ∨ w.heap.size ≤ x) k) := st4_rv (st4_rv RX.out N0 _ _ _ _ (sl_noint _ _ _) (sl_noint _ _ _)) (N1.st4 r0 _ _ _ _ (sl_noint _ _ _) (sl_noint _ _ _)) _ _ _ _ (sl_noint _ _ _) (sl_noint _ _ _)
          have RYF : Hid ((⟨⟨b1, b2, b3, b4⟩, ⟨b5, b6, b7, b8⟩, bq⟩ : RV).rd ((((((((wc.setCell ⟨r0, 0, none⟩ (.bool s1)).setCell ⟨r0, 1, none⟩ (.slice s2 s3 s4)).setCell ⟨r0, 2, none⟩ (.bool s5)).setCell ⟨r0, 3, none⟩ (.slice s6 s7 s8)).setCell ⟨r1, 0, none⟩ (.bool b1)).setCell ⟨r1, 1, none⟩ (.slice b2 b3 b4)).setCell ⟨r1, 2, none⟩ (.bool b5)).setCell ⟨r1, 3, none⟩ (.slice b6 b7 b8)) (fun x => S x ∨ w.heap.size ≤ x) k) := st4_rv (st4_rv RY.out N0 _ _ _ _ (sl_noint _ _ _) (sl_noint _ _ _)) (N1.st4 r0 _ _ _ _ (sl_noint _ _ _) (sl_noint _ _ _)) _ _ _ _ (sl_noint _ _ _) (sl_noint _ _ _)
          clear F1c N0 N1 R0L R1L
          apply lext_turn; exact rfl; exact rfl; exact rfl; intro K hK; go_simp; skip
          refine hK.out _ _ ⟨GH.out, fun i hi => Or.elim hi (fun e => by rw [e]; exact (st4_other NN.out.2.2.2.2.1.symm _ _ _ _).trans (FE.out _ (.inl rfl))) (fun e => by rw [e]; exact (st4_other NN.out.2.2.2.2.2.1.symm _ _ _ _).trans (FE.out _ (.inr rfl)))⟩ ?_
          clear hK
          try simp only [Act.put, List.setIfInBounds_toArray, List.set_cons_zero, List.set_cons_succ]
          apply lext_turn; exact rfl; exact rfl; exact rfl; intro K hK; go_simp; skip
          refine hK.out _ _ ⟨GF.out, fun i hi => Or.elim hi (fun e => by rw [e]; exact (st4_other NN.out.2.2.2.2.2.2.1.symm _ _ _ _).trans ((st4_other NN.out.2.2.2.2.1.symm _ _ _ _).trans (FE.out _ (.inl rfl)))) (fun e => by rw [e]; exact (st4_other NN.out.2.2.2.2.2.2.2.symm _ _ _ _).trans ((st4_other NN.out.2.2.2.2.2.1.symm _ _ _ _).trans (FE.out _ (.inr rfl))))⟩ ?_
          clear hK
          try simp only [Act.put, List.setIfInBounds_toArray, List.set_cons_zero, List.set_cons_succ]
          refine lext_nil ?_
          simp only [List.drop_succ_cons, List.drop_zero]
          go_wp2
          exact bodyPost_ret (v := .tuple #[.agg #[.bool s1, .slice s2 s3 s4, .bool s5, .slice s6 s7 s8], .agg #[.bool b1, .slice b2 b3 b4, .bool b5, .slice b6 b7 b8], .bool (decide (m3 ≤ 0))]) (by simp [results, Try.f44, go_sem, y0, y1, y2, y3, x0, x1, x2, x3]) rfl (HR.out (⟨⟨s1, s2, s3, s4⟩, ⟨s5, s6, s7, s8⟩, sq⟩ : RV) (⟨⟨b1, b2, b3, b4⟩, ⟨b5, b6, b7, b8⟩, bq⟩ : RV) _ _ GF.out rfl RXF.out RYF.out)
      | false =>
        go_upto_region 9 with fail
        clear hc1
        generalize w6 = w7 at *
        have y0 := cell_of_row _ (bt) 0 _ _ (0, 0) FT.out
        have y1 := cell_of_row _ (bt) 1 _ _ (0, 0) FT.out
        have y2 := cell_of_row _ (bt) 2 _ _ (0, 0) FT.out
        have y3 := cell_of_row _ (bt) 3 _ _ (0, 0) FT.out
        have x0 := cell_of_row _ (bb) 0 _ _ (0, 0) FB.out
        have x1 := cell_of_row _ (bb) 1 _ _ (0, 0) FB.out
        have x2 := cell_of_row _ (bb) 2 _ _ (0, 0) FB.out
        have x3 := cell_of_row _ (bb) 3 _ _ (0, 0) FB.out
        go_wp2_with fail
        go_at_call 29
        refine O2.out _ _ RTT.out RB.out _ ?_
        intro w8 hg8
        clear y0 y1 y2 y3 x0 x1 x2 x3 O2
        have RTT := Lib.hid (RTT.out.gr hg8)
        have RB := Lib.hid (RB.out.gr hg8)
        have RA := Lib.hid (RA.out.gr hg8)
        have FT := Lib.hid (grow_blk hg8 FT.out)
        have FA := Lib.hid (grow_blk hg8 FA.out)
        have FB := Lib.hid (grow_blk hg8 FB.out)
        have F0 := Lib.hid (grow_blk hg8 F0.out)
        have F1 := Lib.hid (grow_blk hg8 F1.out)
        have GW := Lib.hid (GW.out.tr hg8)
        clear hg8
        cases c2 with
        | true =>
          have y0 := cell_of_row _ (bt) 0 _ _ (0, 0) FT.out
          have y1 := cell_of_row _ (bt) 1 _ _ (0, 0) FT.out
          have y2 := cell_of_row _ (bt) 2 _ _ (0, 0) FT.out
          have y3 := cell_of_row _ (bt) 3 _ _ (0, 0) FT.out
          have ub0 := FB.out
          have uz0 := cell_of_row _ (bb) 0 _ _ (0, 0) ub0
          have ug0 := frozen_of_row _ (bb) 0 _ _ ub0
          have ub1 := blk_set ub0 0 (.bool t1)
          have uz1 := cell_of_row _ (bb) 1 _ _ (0, 0) ub1
          have ug1 := frozen_of_row _ (bb) 1 _ _ ub1
          have ub2 := blk_set ub1 1 (.slice t2 t3 t4)
          have uz2 := cell_of_row _ (bb) 2 _ _ (0, 0) ub2
          have ug2 := frozen_of_row _ (bb) 2 _ _ ub2
          have ub3 := blk_set ub2 2 (.bool t5)
          have uz3 := cell_of_row _ (bb) 3 _ _ (0, 0) ub3
          have ug3 := frozen_of_row _ (bb) 3 _ _ ub3
          have ub4 := blk_set ub3 3 (.slice t6 t7 t8)
          simp only [List.setIfInBounds_toArray, List.set_cons_zero, List.set_cons_succ] at uz0 uz1 uz2 uz3
          have uL := Lib.hid ub4
          clear ub0 ub1 ub2 ub3 ub4
          have NBB : BoxN w8 bb := ⟨_, _, _, FB.out, rat_noint _ _ _ _ _ _ _ _⟩
          have RA : Hid ((⟨⟨a1, a2, a3, a4⟩, ⟨a5, a6, a7, a8⟩, aq⟩ : RV).rd ((((w8.setCell ⟨bb, 0, none⟩ (.bool t1)).setCell ⟨bb, 1, none⟩ (.slice t2 t3 t4)).setCell ⟨bb, 2, none⟩ (.bool t5)).setCell ⟨bb, 3, none⟩ (.slice t6 t7 t8)) (fun x => S x ∨ w.heap.size ≤ x) k) := st4_rv RA.out NBB _ _ _ _ (sl_noint _ _ _) (sl_noint _ _ _)
          have RTT : Hid ((⟨⟨t1, t2, t3, t4⟩, ⟨t5, t6, t7, t8⟩, tq⟩ : RV).rd ((((w8.setCell ⟨bb, 0, none⟩ (.bool t1)).setCell ⟨bb, 1, none⟩ (.slice t2 t3 t4)).setCell ⟨bb, 2, none⟩ (.bool t5)).setCell ⟨bb, 3, none⟩ (.slice t6 t7 t8)) (fun x => S x ∨ w.heap.size ≤ x) k) := st4_rv RTT.out NBB _ _ _ _ (sl_noint _ _ _) (sl_noint _ _ _)
          have FA : Hid (((((w8.setCell ⟨bb, 0, none⟩ (.bool t1)).setCell ⟨bb, 1, none⟩ (.slice t2 t3 t4)).setCell ⟨bb, 2, none⟩ (.bool t5)).setCell ⟨bb, 3, none⟩ (.slice t6 t7 t8)).heap[ba]? = some (.cells #[.bool a1, .slice a2 a3 a4, .bool a5, .slice a6 a7 a8] 35 (0, 0))) := (st4_other NN.out.1 _ _ _ _).trans FA.out
          have F0 : Hid (((((w8.setCell ⟨bb, 0, none⟩ (.bool t1)).setCell ⟨bb, 1, none⟩ (.slice t2 t3 t4)).setCell ⟨bb, 2, none⟩ (.bool t5)).setCell ⟨bb, 3, none⟩ (.slice t6 t7 t8)).heap[r0]? = some (.cells #[.bool false, .slice none 0 0, .bool false, .slice none 0 0] 35 (0, 0))) := (st4_other NN.out.2.2.2.2.2.1 _ _ _ _).trans F0.out
          have F1 : Hid (((((w8.setCell ⟨bb, 0, none⟩ (.bool t1)).setCell ⟨bb, 1, none⟩ (.slice t2 t3 t4)).setCell ⟨bb, 2, none⟩ (.bool t5)).setCell ⟨bb, 3, none⟩ (.slice t6 t7 t8)).heap[r1]? = some (.cells #[.bool false, .slice none 0 0, .bool false, .slice none 0 0] 35 (0, 0))) := (st4_other NN.out.2.2.2.2.2.2.2 _ _ _ _).trans F1.out
          have FB : Hid (((((w8.setCell ⟨bb, 0, none⟩ (.bool t1)).setCell ⟨bb, 1, none⟩ (.slice t2 t3 t4)).setCell ⟨bb, 2, none⟩ (.bool t5)).setCell ⟨bb, 3, none⟩ (.slice t6 t7 t8)).heap[bb]? = some (.cells #[.bool t1, .slice t2 t3 t4, .bool t5, .slice t6 t7 t8] 35 (0, 0))) := uL.out
          have GW : Hid (Grow w ((((w8.setCell ⟨bb, 0, none⟩ (.bool t1)).setCell ⟨bb, 1, none⟩ (.slice t2 t3 t4)).setCell ⟨bb, 2, none⟩ (.bool t5)).setCell ⟨bb, 3, none⟩ (.slice t6 t7 t8))) := GW.out.st4 LE.out.2.1 _ _ _ _
          clear NBB uL
          go_upto_region 11 with fail
          clear y0 y1 y2 y3 hc2 uz0 ug0 uz1 ug1 uz2 ug2 uz3 ug3
          generalize ((((w8.setCell ⟨bb, 0, none⟩ (.bool t1)).setCell ⟨bb, 1, none⟩ (.slice t2 t3 t4)).setCell ⟨bb, 2, none⟩ (.bool t5)).setCell ⟨bb, 3, none⟩ (.slice t6 t7 t8)) = w9 at *
          have RX := Lib.hid RA.out
          have RY := Lib.hid RTT.out
          have EV : Hid (slabQ aq bq p q lo hi = (aq, tq, decide (cmpR aq tq ≤ 0))) := by
            show _ = _
            unfold slabQ
            rw [if_neg HPQ2.out, HV.out.1, HV.out.2, ← QS.out, ← QT.out]
            simp only [E1.out, E2.out, if_true, Bool.false_eq_true, if_false, cmpR_le]
          rw [EV.out] at HR
          have O3 := Lib.hid fun W T (h1 : (⟨⟨a1, a2, a3, a4⟩, ⟨a5, a6, a7, a8⟩, aq⟩ : RV).rd W T k) (h2 : (⟨⟨t1, t2, t3, t4⟩, ⟨t5, t6, t7, t8⟩, tq⟩ : RV).rd W T k) (R : Ending → World → Prop) hR => order_q _ _ k k T T W h1 h2 HK.out.2 HK.out.2 (R := R) hR
          dsimp only at O3
          generalize cmpR aq tq = m3 at *
          unfold RV.cells at O3
          dsimp only at O3
          clear EV E1 E2 QS QT HV
          have HG := Lib.hid ((Grow.refl w9).dr)
          have RX := Lib.hid (RX.out.gr HG.out)
          have RY := Lib.hid (RY.out.gr HG.out)
          have FA := Lib.hid (grow_blk HG.out FA.out)
          have FB := Lib.hid (grow_blk HG.out FB.out)
          have F0 := Lib.hid (grow_blk HG.out F0.out)
          have F1 := Lib.hid (grow_blk HG.out F1.out)
          have GW := Lib.hid (GW.out.tr HG.out)
          clear HG
          refine wp_region_lexT (fun W => Grow w W ∧ (∀ i, i = ba ∨ i = bb → W.heap[i]? = w9.drew.heap[i]?)) (⟨GW.out, fun _ _ => rfl⟩) 8 [0, 1, 2, 3, 4, 5, 6, 7] (by kernel_rfl) (by kernel_rfl) (by intro c a d v w h; cases d <;> exact h) ?_
          iterate 4 (apply lext_take; exact rfl; exact rfl; (intro W hW; have fa := (hW.2 ba (.inl rfl)).trans FA.out; have fb := (hW.2 bb (.inr rfl)).trans FB.out; have z0 := cell_of_row _ ba 0 _ _ (0, 0) fa; have y0 := cell_of_row _ bb 0 _ _ (0, 0) fb; have z1 := cell_of_row _ ba 1 _ _ (0, 0) fa; have y1 := cell_of_row _ bb 1 _ _ (0, 0) fb; have z2 := cell_of_row _ ba 2 _ _ (0, 0) fa; have y2 := cell_of_row _ bb 2 _ _ (0, 0) fb; have z3 := cell_of_row _ ba 3 _ _ (0, 0) fa; have y3 := cell_of_row _ bb 3 _ _ (0, 0) fb; clear fa fb; (try clear hW); go_simp; with_reducible rfl); try simp only [Act.put, List.setIfInBounds_toArray, List.set_cons_zero, List.set_cons_succ])
          generalize w9.drew = wb at *
          apply lext_turn; exact rfl; exact rfl; exact rfl; intro K hK; go_simp; go_at_call 29; refine O3.out _ _ RX.out RY.out _ ?_; intro wc hgc
          have FE : Hid (∀ i, i = ba ∨ i = bb → wc.heap[i]? = wb.heap[i]?) := fun i hi => Or.elim hi (fun e => by rw [e]; exact hgc.block _ (lt_of_block FA.out)) (fun e => by rw [e]; exact hgc.block _ (lt_of_block FB.out))
          have RX := Lib.hid (RX.out.gr hgc)
          have RY := Lib.hid (RY.out.gr hgc)
          have F0 := Lib.hid (grow_blk hgc F0.out)
          have F1 := Lib.hid (grow_blk hgc F1.out)
          have GW := Lib.hid (GW.out.tr hgc)
          refine hK.out _ _ ⟨GW.out, FE.out⟩ ?_
          clear hK hgc O3
          try simp only [Act.put, List.setIfInBounds_toArray, List.set_cons_zero, List.set_cons_succ]
          iterate 1 (apply lext_take; exact rfl; exact rfl; (intro W hW; (try clear hW); go_simp; with_reducible rfl); try simp only [Act.put, List.setIfInBounds_toArray, List.set_cons_zero, List.set_cons_succ])
          have ub0 := F0.out
          have uz0 := cell_of_row _ (r0) 0 _ _ (0, 0) ub0
          have ug0 := frozen_of_row _ (r0) 0 _ _ ub0
          have ub1 := blk_set ub0 0 (.bool a1)
          have uz1 := cell_of_row _ (r0) 1 _ _ (0, 0) ub1
          have ug1 := frozen_of_row _ (r0) 1 _ _ ub1
          have ub2 := blk_set ub1 1 (.slice a2 a3 a4)
          have uz2 := cell_of_row _ (r0) 2 _ _ (0, 0) ub2
          have ug2 := frozen_of_row _ (r0) 2 _ _ ub2
          have ub3 := blk_set ub2 2 (.bool a5)
          have uz3 := cell_of_row _ (r0) 3 _ _ (0, 0) ub3
          have ug3 := frozen_of_row _ (r0) 3 _ _ ub3
          have ub4 := blk_set ub3 3 (.slice a6 a7 a8)
          simp only [List.setIfInBounds_toArray, List.set_cons_zero, List.set_cons_succ] at uz0 uz1 uz2 uz3
          have uL := Lib.hid ub4
          clear ub0 ub1 ub2 ub3 ub4
          have F1c := (st4_other (W := wc) (b := r0) (c := r1) NN.out.2.2.2.1 (.bool a1) (.slice a2 a3 a4) (.bool a5) (.slice a6 a7 a8)).trans F1.out
          unfold st4 at F1c
          have vb0 := F1c
          have vz0 := cell_of_row _ (r1) 0 _ _ (0, 0) vb0
          have vg0 := frozen_of_row _ (r1) 0 _ _ vb0
          have vb1 := blk_set vb0 0 (.bool t1)
          have vz1 := cell_of_row _ (r1) 1 _ _ (0, 0) vb1
          have vg1 := frozen_of_row _ (r1) 1 _ _ vb1
          have vb2 := blk_set vb1 1 (.slice t2 t3 t4)
          have vz2 := cell_of_row _ (r1) 2 _ _ (0, 0) vb2
          have vg2 := frozen_of_row _ (r1) 2 _ _ vb2
          have vb3 := blk_set vb2 2 (.bool t5)
          have vz3 := cell_of_row _ (r1) 3 _ _ (0, 0) vb3
          have vg3 := frozen_of_row _ (r1) 3 _ _ vb3
          have vb4 := blk_set vb3 3 (.slice t6 t7 t8)
          simp only [List.setIfInBounds_toArray, List.set_cons_zero, List.set_cons_succ] at vz0 vz1 vz2 vz3
          have vL := Lib.hid vb4
          clear vb0 vb1 vb2 vb3 vb4
          have R0L : ((((((((wc.setCell ⟨r0, 0, none⟩ (.bool a1)).setCell ⟨r0, 1, none⟩ (.slice a2 a3 a4)).setCell ⟨r0, 2, none⟩ (.bool a5)).setCell ⟨r0, 3, none⟩ (.slice a6 a7 a8)).setCell ⟨r1, 0, none⟩ (.bool t1)).setCell ⟨r1, 1, none⟩ (.slice t2 t3 t4)).setCell ⟨r1, 2, none⟩ (.bool t5)).setCell ⟨r1, 3, none⟩ (.slice t6 t7 t8)).heap[r0]? = some (.cells #[.bool a1, .slice a2 a3 a4, .bool a5, .slice a6 a7 a8] 35 (0, 0)) := (st4_other (W := ((((wc.setCell ⟨r0, 0, none⟩ (.bool a1)).setCell ⟨r0, 1, none⟩ (.slice a2 a3 a4)).setCell ⟨r0, 2, none⟩ (.bool a5)).setCell ⟨r0, 3, none⟩ (.slice a6 a7 a8))) (b := r1) (c := r0) NN.out.2.2.1 (.bool t1) (.slice t2 t3 t4) (.bool t5) (.slice t6 t7 t8)).trans uL.out
          have R1L : ((((((((wc.setCell ⟨r0, 0, none⟩ (.bool a1)).setCell ⟨r0, 1, none⟩ (.slice a2 a3 a4)).setCell ⟨r0, 2, none⟩ (.bool a5)).setCell ⟨r0, 3, none⟩ (.slice a6 a7 a8)).setCell ⟨r1, 0, none⟩ (.bool t1)).setCell ⟨r1, 1, none⟩ (.slice t2 t3 t4)).setCell ⟨r1, 2, none⟩ (.bool t5)).setCell ⟨r1, 3, none⟩ (.slice t6 t7 t8)).heap[r1]? = some (.cells #[.bool t1, .slice t2 t3 t4, .bool t5, .slice t6 t7 t8] 35 (0, 0)) := vL.out
          have y0 := cell_of_row _ (r0) 0 _ _ (0, 0) R0L
          have y1 := cell_of_row _ (r0) 1 _ _ (0, 0) R0L
          have y2 := cell_of_row _ (r0) 2 _ _ (0, 0) R0L
          have y3 := cell_of_row _ (r0) 3 _ _ (0, 0) R0L
          have x0 := cell_of_row _ (r1) 0 _ _ (0, 0) R1L
          have x1 := cell_of_row _ (r1) 1 _ _ (0, 0) R1L
          have x2 := cell_of_row _ (r1) 2 _ _ (0, 0) R1L
          have x3 := cell_of_row _ (r1) 3 _ _ (0, 0) R1L
          have GF : Hid (Grow w ((((((((wc.setCell ⟨r0, 0, none⟩ (.bool a1)).setCell ⟨r0, 1, none⟩ (.slice a2 a3 a4)).setCell ⟨r0, 2, none⟩ (.bool a5)).setCell ⟨r0, 3, none⟩ (.slice a6 a7 a8)).setCell ⟨r1, 0, none⟩ (.bool t1)).setCell ⟨r1, 1, none⟩ (.slice t2 t3 t4)).setCell ⟨r1, 2, none⟩ (.bool t5)).setCell ⟨r1, 3, none⟩ (.slice t6 t7 t8))) := ((GW.out).st4 LE.out.2.2.1 _ _ _ _).st4 LE.out.2.2.2 _ _ _ _
          have GH : Hid (Grow w ((((wc.setCell ⟨r0, 0, none⟩ (.bool a1)).setCell ⟨r0, 1, none⟩ (.slice a2 a3 a4)).setCell ⟨r0, 2, none⟩ (.bool a5)).setCell ⟨r0, 3, none⟩ (.slice a6 a7 a8))) := (GW.out).st4 LE.out.2.2.1 _ _ _ _
          have N0 : BoxN wc r0 := ⟨_, _, _, F0.out, rat_noint _ _ _ _ _ _ _ _⟩
          have N1 : BoxN wc r1 := ⟨_, _, _, F1.out, rat_noint _ _ _ _ _ _ _ _⟩
          have RXF : Hid ((⟨⟨a1, a2, a3, a4⟩, ⟨a5, a6, a7, a8⟩, aq⟩ : RV).rd ((((((((wc.setCell ⟨r0, 0, none⟩ (.bool a1)).setCell ⟨r0, 1, none⟩ (.slice a2 a3 a4)).setCell ⟨r0, 2, none⟩ (.bool a5)).setCell ⟨r0, 3, none⟩ (.slice a6 a7 a8)).setCell ⟨r1, 0, none⟩ (.bool t1)).setCell ⟨r1, 1, none⟩ (.slice t2 t3 t4)).setCell ⟨r1, 2, none⟩ (.bool t5)).setCell ⟨r1, 3, none⟩ (.slice t6 t7 t8)) (fun x => S x ∨ w.heap.size ≤ x) k) := st4_rv (st4_rv RX.out N0 _ _ _ _ (sl_noint _ _ _) (sl_noint _ _ _)) (N1.st4 r0 _ _ _ _ (sl_noint _ _ _) (sl_noint _ _ _)) _ _ _ _ (sl_noint _ _ _) (sl_noint _ _ _)
          have RYF : Hid ((⟨⟨t1, t2, t3, t4⟩, ⟨t5, t6, t7, t8⟩, tq⟩ : RV).rd ((((((((wc.setCell ⟨r0, 0, none⟩ (.bool a1)).setCell ⟨r0, 1, none⟩ (.slice a2 a3 a4)).setCell ⟨r0, 2, none⟩ (.bool a5)).setCell ⟨r0, 3, none⟩ (.slice a6 a7 a8)).setCell ⟨r1, 0, none⟩ (.bool t1)).setCell ⟨r1, 1, none⟩ (.slice t2 t3 t4)).setCell ⟨r1, 2, none⟩ (.bool t5)).setCell ⟨r1, 3, none⟩ (.slice t6 t7 t8)) (fun x => S x ∨ w.heap.size ≤ x) k) := st4_rv (st4_rv RY.out N0 _ _ _ _ (sl_noint _ _ _) (sl_noint _ _ _)) (N1.st4 r0 _ _ _ _ (sl_noint _ _ _) (sl_noint _ _ _)) _ _ _ _ (sl_noint _ _ _) (sl_noint _ _ _)
          clear F1c N0 N1 R0L R1L
          apply lext_turn; exact rfl; exact rfl; exact rfl; intro K hK; go_simp; skip
          refine hK.out _ _ ⟨GH.out, fun i hi => Or.elim hi (fun e => by rw [e]; exact (st4_other NN.out.2.2.2.2.1.symm _ _ _ _).trans (FE.out _ (.inl rfl))) (fun e => by rw [e]; exact (st4_other NN.out.2.2.2.2.2.1.symm _ _ _ _).trans (FE.out _ (.inr rfl)))⟩ ?_
          clear hK
          try simp only [Act.put, List.setIfInBounds_toArray, List.set_cons_zero, List.set_cons_succ]
          apply lext_turn; exact rfl; exact rfl; exact rfl; intro K hK; go_simp; skip
          refine hK.out _ _ ⟨GF.out, fun i hi => Or.elim hi (fun e => by rw [e]; exact (st4_other NN.out.2.2.2.2.2.2.1.symm _ _ _ _).trans ((st4_other NN.out.2.2.2.2.1.symm _ _ _ _).trans (FE.out _ (.inl rfl)))) (fun e => by rw [e]; exact (st4_other NN.out.2.2.2.2.2.2.2.symm _ _ _ _).trans ((st4_other NN.out.2.2.2.2.2.1.symm _ _ _ _).trans (FE.out _ (.inr rfl))))⟩ ?_
          clear hK
          try simp only [Act.put, List.setIfInBounds_toArray, List.set_cons_zero, List.set_cons_succ]
          refine lext_nil ?_
          simp only [List.drop_succ_cons, List.drop_zero]
          go_wp2
          exact bodyPost_ret (v := .tuple #[.agg #[.bool a1, .slice a2 a3 a4, .bool a5, .slice a6 a7 a8], .agg #[.bool t1, .slice t2 t3 t4, .bool t5, .slice t6 t7 t8], .bool (decide (m3 ≤ 0))]) (by simp [results, Try.f44, go_sem, y0, y1, y2, y3, x0, x1, x2, x3]) rfl (HR.out (⟨⟨a1, a2, a3, a4⟩, ⟨a5, a6, a7, a8⟩, aq⟩ : RV) (⟨⟨t1, t2, t3, t4⟩, ⟨t5, t6, t7, t8⟩, tq⟩ : RV) _ _ GF.out rfl RXF.out RYF.out)
        | false =>
          go_upto_region 11 with fail
          clear hc2
          generalize w8 = w9 at *
          have RX := Lib.hid RA.out
          have RY := Lib.hid RB.out
          have EV : Hid (slabQ aq bq p q lo hi = (aq, bq, decide (cmpR aq bq ≤ 0))) := by
            show _ = _
            unfold slabQ
            rw [if_neg HPQ2.out, HV.out.1, HV.out.2, ← QS.out, ← QT.out]
            simp only [E1.out, E2.out, Bool.false_eq_true, if_false, cmpR_le]
          rw [EV.out] at HR
          have O3 := Lib.hid fun W T (h1 : (⟨⟨a1, a2, a3, a4⟩, ⟨a5, a6, a7, a8⟩, aq⟩ : RV).rd W T k) (h2 : (⟨⟨b1, b2, b3, b4⟩, ⟨b5, b6, b7, b8⟩, bq⟩ : RV).rd W T k) (R : Ending → World → Prop) hR => order_q _ _ k k T T W h1 h2 HK.out.2 HK.out.2 (R := R) hR
          dsimp only at O3
          generalize cmpR aq bq = m3 at *
          unfold RV.cells at O3
          dsimp only at O3
          clear EV E1 E2 QS QT HV
          have HG := Lib.hid ((Grow.refl w9).dr)
          have RX := Lib.hid (RX.out.gr HG.out)
          have RY := Lib.hid (RY.out.gr HG.out)
          have FA := Lib.hid (grow_blk HG.out FA.out)
          have FB := Lib.hid (grow_blk HG.out FB.out)
          have F0 := Lib.hid (grow_blk HG.out F0.out)
          have F1 := Lib.hid (grow_blk HG.out F1.out)
          have GW := Lib.hid (GW.out.tr HG.out)
          clear HG
          refine wp_region_lexT (fun W => Grow w W ∧ (∀ i, i = ba ∨ i = bb → W.heap[i]? = w9.drew.heap[i]?)) (⟨GW.out, fun _ _ => rfl⟩) 8 [0, 1, 2, 3, 4, 5, 6, 7] (by kernel_rfl) (by kernel_rfl) (by intro c a d v w h; cases d <;> exact h) ?_
          iterate 4 (apply lext_take; exact rfl; exact rfl; (intro W hW; have fa := (hW.2 ba (.inl rfl)).trans FA.out; have fb := (hW.2 bb (.inr rfl)).trans FB.out; have z0 := cell_of_row _ ba 0 _ _ (0, 0) fa; have y0 := cell_of_row _ bb 0 _ _ (0, 0) fb; have z1 := cell_of_row _ ba 1 _ _ (0, 0) fa; have y1 := cell_of_row _ bb 1 _ _ (0, 0) fb; have z2 := cell_of_row _ ba 2 _ _ (0, 0) fa; have y2 := cell_of_row _ bb 2 _ _ (0, 0) fb; have z3 := cell_of_row _ ba 3 _ _ (0, 0) fa; have y3 := cell_of_row _ bb 3 _ _ (0, 0) fb; clear fa fb; (try clear hW); go_simp; with_reducible rfl); try simp only [Act.put, List.setIfInBounds_toArray, List.set_cons_zero, List.set_cons_succ])
          generalize w9.drew = wb at *
          apply lext_turn; exact rfl; exact rfl; exact rfl; intro K hK; go_simp; go_at_call 29; refine O3.out _ _ RX.out RY.out _ ?_; intro wc hgc
          have FE : Hid (∀ i, i = ba ∨ i = bb → wc.heap[i]? = wb.heap[i]?) := fun i hi => Or.elim hi (fun e => by rw [e]; exact hgc.block _ (lt_of_block FA.out)) (fun e => by rw [e]; exact hgc.block _ (lt_of_block FB.out))
          have RX := Lib.hid (RX.out.gr hgc)
          have RY := Lib.hid (RY.out.gr hgc)
          have F0 := Lib.hid (grow_blk hgc F0.out)
          have F1 := Lib.hid (grow_blk hgc F1.out)
          have GW := Lib.hid (GW.out.tr hgc)
          refine hK.out _ _ ⟨GW.out, FE.out⟩ ?_
          clear hK hgc O3
          try simp only [Act.put, List.setIfInBounds_toArray, List.set_cons_zero, List.set_cons_succ]
          iterate 1 (apply lext_take; exact rfl; exact rfl; (intro W hW; (try clear hW); go_simp; with_reducible rfl); try simp only [Act.put, List.setIfInBounds_toArray, List.set_cons_zero, List.set_cons_succ])
          have ub0 := F0.out
          have uz0 := cell_of_row _ (r0) 0 _ _ (0, 0) ub0
          have ug0 := frozen_of_row _ (r0) 0 _ _ ub0
          have ub1 := blk_set ub0 0 (.bool a1)
          have uz1 := cell_of_row _ (r0) 1 _ _ (0, 0) ub1
          have ug1 := frozen_of_row _ (r0) 1 _ _ ub1
          have ub2 := blk_set ub1 1 (.slice a2 a3 a4)
          have uz2 := cell_of_row _ (r0) 2 _ _ (0, 0) ub2
          have ug2 := frozen_of_row _ (r0) 2 _ _ ub2
          have ub3 := blk_set ub2 2 (.bool a5)
          have uz3 := cell_of_row _ (r0) 3 _ _ (0, 0) ub3
          have ug3 := frozen_of_row _ (r0) 3 _ _ ub3
          have ub4 := blk_set ub3 3 (.slice a6 a7 a8)
          simp only [List.setIfInBounds_toArray, List.set_cons_zero, List.set_cons_succ] at uz0 uz1 uz2 uz3
          have uL := Lib.hid ub4
          clear ub0 ub1 ub2 ub3 ub4
          have F1c := (st4_other (W := wc) (b := r0) (c := r1) NN.out.2.2.2.1 (.bool a1) (.slice a2 a3 a4) (.bool a5) (.slice a6 a7 a8)).trans F1.out
          unfold st4 at F1c
          have vb0 := F1c
          have vz0 := cell_of_row _ (r1) 0 _ _ (0, 0) vb0
          have vg0 := frozen_of_row _ (r1) 0 _ _ vb0
          have vb1 := blk_set vb0 0 (.bool b1)
          have vz1 := cell_of_row _ (r1) 1 _ _ (0, 0) vb1
          have vg1 := frozen_of_row _ (r1) 1 _ _ vb1
          have vb2 := blk_set vb1 1 (.slice b2 b3 b4)
          have vz2 := cell_of_row _ (r1) 2 _ _ (0, 0) vb2
          have vg2 := frozen_of_row _ (r1) 2 _ _ vb2
          have vb3 := blk_set vb2 2 (.bool b5)
          have vz3 := cell_of_row _ (r1) 3 _ _ (0, 0) vb3
          have vg3 := frozen_of_row _ (r1) 3 _ _ vb3
          have vb4 := blk_set vb3 3 (.slice b6 b7 b8)
          simp only [List.setIfInBounds_toArray, List.set_cons_zero, List.set_cons_succ] at vz0 vz1 vz2 vz3
          have vL := Lib.hid vb4
          clear vb0 vb1 vb2 vb3 vb4
          have R0L : ((((((((wc.setCell ⟨r0, 0, none⟩ (.bool a1)).setCell ⟨r0, 1, none⟩ (.slice a2 a3 a4)).setCell ⟨r0, 2, none⟩ (.bool a5)).setCell ⟨r0, 3, none⟩ (.slice a6 a7 a8)).setCell ⟨r1, 0, none⟩ (.bool b1)).setCell ⟨r1, 1, none⟩ (.slice b2 b3 b4)).setCell ⟨r1, 2, none⟩ (.bool b5)).setCell ⟨r1, 3, none⟩ (.slice b6 b7 b8)).heap[r0]? = some (.cells #[.bool a1, .slice a2 a3 a4, .bool a5, .slice a6 a7 a8] 35 (0, 0)) := (st4_other (W := ((((wc.setCell ⟨r0, 0, none⟩ (.bool a1)).setCell ⟨r0, 1, none⟩ (.slice a2 a3 a4)).setCell ⟨r0, 2, none⟩ (.bool a5)).setCell ⟨r0, 3, none⟩ (.slice a6 a7 a8))) (b := r1) (c := r0) NN.out.2.2.1 (.bool b1) (.slice b2 b3 b4) (.bool b5) (.slice b6 b7 b8)).trans uL.out
          have R1L : ((((((((wc.setCell ⟨r0, 0, none⟩ (.bool a1)).setCell ⟨r0, 1, none⟩ (.slice a2 a3 a4)).setCell ⟨r0, 2, none⟩ (.bool a5)).setCell ⟨r0, 3, none⟩ (.slice a6 a7 a8)).setCell ⟨r1, 0, none⟩ (.bool b1)).setCell ⟨r1, 1, none⟩ (.slice b2 b3 b4)).setCell ⟨r1, 2, none⟩ (.bool b5)).setCell ⟨r1, 3, none⟩ (.slice b6 b7 b8)).heap[r1]? = some (.cells #[.bool b1, .slice b2 b3 b4, .bool b5, .slice b6 b7 b8] 35 (0, 0)) := vL.out
          have y0 := cell_of_row _ (r0) 0 _ _ (0, 0) R0L
          have y1 := cell_of_row _ (r0) 1 _ _ (0, 0) R0L
          have y2 := cell_of_row _ (r0) 2 _ _ (0, 0) R0L
          have y3 := cell_of_row _ (r0) 3 _ _ (0, 0) R0L
          have x0 := cell_of_row _ (r1) 0 _ _ (0, 0) R1L
          have x1 := cell_of_row _ (r1) 1 _ _ (0, 0) R1L
          have x2 := cell_of_row _ (r1) 2 _ _ (0, 0) R1L
          have x3 := cell_of_row _ (r1) 3 _ _ (0, 0) R1L
          have GF : Hid (Grow w ((((((((wc.setCell ⟨r0, 0, none⟩ (.bool a1)).setCell ⟨r0, 1, none⟩ (.slice a2 a3 a4)).setCell ⟨r0, 2, none⟩ (.bool a5)).setCell ⟨r0, 3, none⟩ (.slice a6 a7 a8)).setCell ⟨r1, 0, none⟩ (.bool b1)).setCell ⟨r1, 1, none⟩ (.slice b2 b3 b4)).setCell ⟨r1, 2, none⟩ (.bool b5)).setCell ⟨r1, 3, none⟩ (.slice b6 b7 b8))) := ((GW.out).st4 LE.out.2.2.1 _ _ _ _).st4 LE.out.2.2.2 _ _ _ _
          have GH : Hid (Grow w ((((wc.setCell ⟨r0, 0, none⟩ (.bool a1)).setCell ⟨r0, 1, none⟩ (.slice a2 a3 a4)).setCell ⟨r0, 2, none⟩ (.bool a5)).setCell ⟨r0, 3, none⟩ (.slice a6 a7 a8))) := (GW.out).st4 LE.out.2.2.1 _ _ _ _
          have N0 : BoxN wc r0 := ⟨_, _, _, F0.out, rat_noint _ _ _ _ _ _ _ _⟩
          have N1 : BoxN wc r1 := ⟨_, _, _, F1.out, rat_noint _ _ _ _ _ _ _ _⟩
          have RXF : Hid ((⟨⟨a1, a2, a3, a4⟩, ⟨a5, a6, a7, a8⟩, aq⟩ : RV).rd ((((((((wc.setCell ⟨r0, 0, none⟩ (.bool a1)).setCell ⟨r0, 1, none⟩ (.slice a2 a3 a4)).setCell ⟨r0, 2, none⟩ (.bool a5)).setCell ⟨r0, 3, none⟩ (.slice a6 a7 a8)).setCell ⟨r1, 0, none⟩ (.bool b1)).setCell ⟨r1, 1, none⟩ (.slice b2 b3 b4)).setCell ⟨r1, 2, none⟩ (.bool b5)).setCell ⟨r1, 3, none⟩ (.slice b6 b7 b8)) (fun x => S x ∨ w.heap.size ≤ x) k) := st4_rv (st4_rv RX.out N0 _ _ _ _ (sl_noint _ _ _) (sl_noint _ _ _)) (N1.st4 r0 _ _ _ _ (sl_noint _ _ _) (sl_noint _ _ _)) _ _ _ _ (sl_noint _ _ _) (sl_noint _ _ _)
          have RYF : Hid ((⟨⟨b1, b2, b3, b4⟩, ⟨b5, b6, b7, b8⟩, bq⟩ : RV).rd ((((((((wc.setCell ⟨r0, 0, none⟩ (.bool a1)).setCell ⟨r0, 1, none⟩ (.slice a2 a3 a4)).setCell ⟨r0, 2, none⟩ (.bool a5)).setCell ⟨r0, 3, none⟩ (.slice a6 a7 a8)).setCell ⟨r1, 0, none⟩ (.bool b1)).setCell ⟨r1, 1, none⟩ (.slice b2 b3 b4)).setCell ⟨r1, 2, none⟩ (.bool b5)).setCell ⟨r1, 3, none⟩ (.slice b6 b7 b8)) (fun x => S x ∨ w.heap.size ≤ x) k) := st4_rv (st4_rv RY.out N0 _ _ _ _ (sl_noint _ _ _) (sl_noint _ _ _)) (N1.st4 r0 _ _ _ _ (sl_noint _ _ _) (sl_noint _ _ _)) _ _ _ _ (sl_noint _ _ _) (sl_noint _ _ _)
          clear F1c N0 N1 R0L R1L
          apply lext_turn; exact rfl; exact rfl; exact rfl; intro K hK; go_simp; skip
          refine hK.out _ _ ⟨GH.out, fun i hi => Or.elim hi (fun e => by rw [e]; exact (st4_other NN.out.2.2.2.2.1.symm _ _ _ _).trans (FE.out _ (.inl rfl))) (fun e => by rw [e]; exact (st4_other NN.out.2.2.2.2.2.1.symm _ _ _ _).trans (FE.out _ (.inr rfl)))⟩ ?_
          clear hK
          try simp only [Act.put, List.setIfInBounds_toArray, List.set_cons_zero, List.set_cons_succ]
          apply lext_turn; exact rfl; exact rfl; exact rfl; intro K hK; go_simp; skip
          refine hK.out _ _ ⟨GF.out, fun i hi => Or.elim hi (fun e => by rw [e]; exact (st4_other NN.out.2.2.2.2.2.2.1.symm _ _ _ _).trans ((st4_other NN.out.2.2.2.2.1.symm _ _ _ _).trans (FE.out _ (.inl rfl)))) (fun e => by rw [e]; exact (st4_other NN.out.2.2.2.2.2.2.2.symm _ _ _ _).trans ((st4_other NN.out.2.2.2.2.2.1.symm _ _ _ _).trans (FE.out _ (.inr rfl))))⟩ ?_
          clear hK
          try simp only [Act.put, List.setIfInBounds_toArray, List.set_cons_zero, List.set_cons_succ]
          refine lext_nil ?_
          simp only [List.drop_succ_cons, List.drop_zero]
          go_wp2
          exact bodyPost_ret (v := .tuple #[.agg #[.bool a1, .slice a2 a3 a4, .bool a5, .slice a6 a7 a8], .agg #[.bool b1, .slice b2 b3 b4, .bool b5, .slice b6 b7 b8], .bool (decide (m3 ≤ 0))]) (by simp [results, Try.f44, go_sem, y0, y1, y2, y3, x0, x1, x2, x3]) rfl (HR.out (⟨⟨a1, a2, a3, a4⟩, ⟨a5, a6, a7, a8⟩, aq⟩ : RV) (⟨⟨b1, b2, b3, b4⟩, ⟨b5, b6, b7, b8⟩, bq⟩ : RV) _ _ GF.out rfl RXF.out RYF.out)
    | false =>
      have HV : Hid (slabX p q lo hi = (((lo - p : Int) : Rat) / ((q - p : Int) : Rat)) ∧ slabY p q lo hi = (((hi - p : Int) : Rat) / ((q - p : Int) : Rat))) := by
        show _ ∧ _
        unfold slabX slabY
        have h := of_decide_eq_false hbq
        simp only [if_neg h, and_self]
      go_enter Try.func44, Try.ntmps44
      go_wp2_with fail
      rw [← hwa]
      clear hwa
      rw [← hr1, ← hr0, ← hbb, ← hba]
      clear hba hbb hr0 hr1
      go_wp2_with fail
      go_at_call 75
      refine way_any p q lo _ HI.out.1 HI.out.2.1 HI.out.2.2.1 ?_
      intro v1 w1 hg1 hv1
      have G1 := Lib.hid hg1
      have V1 := Lib.hid hv1
      clear hg1 hv1 hbq t1
      go_wp2_with fail
      go_at_call 74
      refine right_q _ _ _ 5 _ w1 V1.out (by have := HPQ.out; omega) (by omega) ?_
      intro rs w2 hg2 hqs hrs
      obtain ⟨⟨s1, s2, s3, s4⟩, ⟨s5, s6, s7, s8⟩, sq⟩ := rs
      have G2 := Lib.hid (G1.out.tr hg2)
      have RS := Lib.hid (hrs.both)
      have QS := Lib.hid hqs
      have LS1 : Hid (w.heap.size ≤ wa.heap.size) := GA.out.size
      clear hg2 hrs hqs V1
      unfold RV.cells
      dsimp only at QS ⊢
      go_wp2_with fail
      go_at_call 75
      refine way_any p q hi _ HI.out.1 HI.out.2.1 HI.out.2.2.2 ?_
      intro v3 w3 hg3 hv3
      have LS3 : Hid (w.heap.size ≤ w2.heap.size) := (GA.out.tr G2.out).size
      have G3 := Lib.hid (G2.out.tr hg3)
      have V3 := Lib.hid hv3
      have RS := Lib.hid (RS.out.gr hg3)
      clear hg3 hv3
      go_wp2_with fail
      go_at_call 74
      refine right_q _ _ _ 5 _ w3 V3.out (by have := HPQ.out; omega) (by omega) ?_
      intro rt w4 hg4 hqt hrt
      obtain ⟨⟨t1, t2, t3, t4⟩, ⟨t5, t6, t7, t8⟩, tq⟩ := rt
      have G4 := Lib.hid (G3.out.tr hg4)
      have RS : Hid ((⟨⟨s1, s2, s3, s4⟩, ⟨s5, s6, s7, s8⟩, sq⟩ : RV).rd w4 (fun x => S x ∨ w.heap.size ≤ x) k) := ((RS.out.gr hg4).into fun x hx => .inr (by have := LS1.out; omega)).up HK.out.1
      have RTT : Hid ((⟨⟨t1, t2, t3, t4⟩, ⟨t5, t6, t7, t8⟩, tq⟩ : RV).rd w4 (fun x => S x ∨ w.heap.size ≤ x) k) := (hrt.into fun x hx => .inr (by have := LS3.out; omega)).up HK.out.1
      have RA : Hid ((⟨⟨a1, a2, a3, a4⟩, ⟨a5, a6, a7, a8⟩, aq⟩ : RV).rd w4 (fun x => S x ∨ w.heap.size ≤ x) k) := HA.out.gr (GA.out.tr G4.out)
      have RB : Hid ((⟨⟨b1, b2, b3, b4⟩, ⟨b5, b6, b7, b8⟩, bq⟩ : RV).rd w4 (fun x => S x ∨ w.heap.size ≤ x) k) := HB.out.gr (GA.out.tr G4.out)
      have QT := Lib.hid hqt
      clear hg4 hrt hqt V3 HA HB HI HPQ LS1 LS3
      unfold RV.cells
      dsimp only at QT ⊢
      have LT4 : Hid (ba < w4.heap.size ∧ bb < w4.heap.size ∧ r0 < w4.heap.size ∧ r1 < w4.heap.size) := by
        have := LT.out
        have := G4.out.size
        exact ⟨by omega, by omega, by omega, by omega⟩
      have GW4 := Lib.hid (GA.out.tr G4.out)
      have FA := Lib.hid (grow_blk G4.out FA.out)
      have FB := Lib.hid (grow_blk G4.out FB.out)
      have F0 := Lib.hid (grow_blk G4.out F0.out)
      have F1 := Lib.hid (grow_blk G4.out F1.out)
      clear GA G4 G1 G2 G3 LT SZ
      have FS : Hid (((w4.alloc (.cells #[.bool s1, .slice s2 s3 s4, .bool s5, .slice s6 s7 s8] 35)).alloc (.cells #[.bool t1, .slice t2 t3 t4, .bool t5, .slice t6 t7 t8] 35)).heap[w4.heap.size]? = some (.cells #[.bool s1, .slice s2 s3 s4, .bool s5, .slice s6 s7 s8] 35 (0, 0))) := blk_al w4 _ _ ((Grow.refl _).al _)
      have FT : Hid (((w4.alloc (.cells #[.bool s1, .slice s2 s3 s4, .bool s5, .slice s6 s7 s8] 35)).alloc (.cells #[.bool t1, .slice t2 t3 t4, .bool t5, .slice t6 t7 t8] 35)).heap[w4.heap.size + 1]? = some (.cells #[.bool t1, .slice t2 t3 t4, .bool t5, .slice t6 t7 t8] 35 (0, 0))) := by
        have := blk_al (w4.alloc (.cells #[.bool s1, .slice s2 s3 s4, .bool s5, .slice s6 s7 s8] 35)) #[.bool t1, .slice t2 t3 t4, .bool t5, .slice t6 t7 t8] 35 (Grow.refl _)
        rwa [World.size_alloc] at this
      have G5 : Hid (Grow w4 ((w4.alloc (.cells #[.bool s1, .slice s2 s3 s4, .bool s5, .slice s6 s7 s8] 35)).alloc (.cells #[.bool t1, .slice t2 t3 t4, .bool t5, .slice t6 t7 t8] 35))) := ((Grow.refl w4).al _).al _
      have NS : Hid (w4.heap.size ≠ w4.heap.size + 1 ∧ w4.heap.size + 1 ≠ w4.heap.size) := ⟨by omega, by omega⟩
      have NB : Hid (w4.heap.size ≠ ba ∧ w4.heap.size + 1 ≠ ba ∧ w4.heap.size ≠ bb ∧ w4.heap.size + 1 ≠ bb) := by
        have := LT4.out
        exact ⟨by omega, by omega, by omega, by omega⟩
      go_upto_region 7 with fail
      generalize ((w4.alloc (.cells #[.bool s1, .slice s2 s3 s4, .bool s5, .slice s6 s7 s8] 35)).alloc (.cells #[.bool t1, .slice t2 t3 t4, .bool t5, .slice t6 t7 t8] 35)) = w5 at *
      generalize w4.heap.size + 1 = bt at *
      obtain ⟨bs, hbs⟩ : ∃ x, x = w4.heap.size := ⟨_, rfl⟩
      rw [← hbs] at FS NS NB ⊢
      clear hbs
      have RS := Lib.hid (RS.out.gr G5.out)
      have RTT := Lib.hid (RTT.out.gr G5.out)
      have RA := Lib.hid (RA.out.gr G5.out)
      have RB := Lib.hid (RB.out.gr G5.out)
      have FA := Lib.hid (grow_blk G5.out FA.out)
      have FB := Lib.hid (grow_blk G5.out FB.out)
      have F0 := Lib.hid (grow_blk G5.out F0.out)
      have F1 := Lib.hid (grow_blk G5.out F1.out)
      have GW := Lib.hid (GW4.out.tr G5.out)
      clear GW4 G5 LT4
      obtain ⟨m1, hm1⟩ : ∃ m, cmpR sq aq = m := ⟨_, rfl⟩
      obtain ⟨m2, hm2⟩ : ∃ m, cmpR tq bq = m := ⟨_, rfl⟩
      obtain ⟨c1, hc1⟩ : ∃ c, decide (0 < m1) = c := ⟨_, rfl⟩
      obtain ⟨c2, hc2⟩ : ∃ c, decide (m2 < 0) = c := ⟨_, rfl⟩
      have E1 : Hid ((aq < sq) = (c1 = true)) := by show _ = _; rw [← hc1, decide_eq_true_eq, ← hm1, cmpR_gt]
      have E2 : Hid ((tq < bq) = (c2 = true)) := by show _ = _; rw [← hc2, decide_eq_true_eq, ← hm2, cmpR_lt]
      have O1 := Lib.hid fun W T (h1 : (⟨⟨s1, s2, s3, s4⟩, ⟨s5, s6, s7, s8⟩, sq⟩ : RV).rd W T k) (h2 : (⟨⟨a1, a2, a3, a4⟩, ⟨a5, a6, a7, a8⟩, aq⟩ : RV).rd W T k) (R : Ending → World → Prop) hR => order_q _ _ k k T T W h1 h2 HK.out.2 HK.out.2 (R := R) hR
      have O2 := Lib.hid fun W T (h1 : (⟨⟨t1, t2, t3, t4⟩, ⟨t5, t6, t7, t8⟩, tq⟩ : RV).rd W T k) (h2 : (⟨⟨b1, b2, b3, b4⟩, ⟨b5, b6, b7, b8⟩, bq⟩ : RV).rd W T k) (R : Ending → World → Prop) hR => order_q _ _ k k T T W h1 h2 HK.out.2 HK.out.2 (R := R) hR
      dsimp only at O1 O2
      rw [hm1] at O1
      rw [hm2] at O2
      unfold RV.cells at O1 O2
      dsimp only at O1 O2
      clear hm1 hm2
      have y0 := cell_of_row _ (bs) 0 _ _ (0, 0) FS.out
      have y1 := cell_of_row _ (bs) 1 _ _ (0, 0) FS.out
      have y2 := cell_of_row _ (bs) 2 _ _ (0, 0) FS.out
      have y3 := cell_of_row _ (bs) 3 _ _ (0, 0) FS.out
      have x0 := cell_of_row _ (ba) 0 _ _ (0, 0) FA.out
      have x1 := cell_of_row _ (ba) 1 _ _ (0, 0) FA.out
      have x2 := cell_of_row _ (ba) 2 _ _ (0, 0) FA.out
      have x3 := cell_of_row _ (ba) 3 _ _ (0, 0) FA.out
      go_wp2_with fail
      go_at_call 29
      refine O1.out _ _ RS.out RA.out _ ?_
      intro w6 hg6
      clear y0 y1 y2 y3 x0 x1 x2 x3 O1
      have RS := Lib.hid (RS.out.gr hg6)
      have RTT := Lib.hid (RTT.out.gr hg6)
      have RA := Lib.hid (RA.out.gr hg6)
      have RB := Lib.hid (RB.out.gr hg6)
      have FS := Lib.hid (grow_blk hg6 FS.out)
      have FT := Lib.hid (grow_blk hg6 FT.out)
      have FA := Lib.hid (grow_blk hg6 FA.out)
      have FB := Lib.hid (grow_blk hg6 FB.out)
      have F0 := Lib.hid (grow_blk hg6 F0.out)
      have F1 := Lib.hid (grow_blk hg6 F1.out)
      have GW := Lib.hid (GW.out.tr hg6)
      clear hg6
      cases c1 with
      | true =>
        have y0 := cell_of_row _ (bs) 0 _ _ (0, 0) FS.out
        have y1 := cell_of_row _ (bs) 1 _ _ (0, 0) FS.out
        have y2 := cell_of_row _ (bs) 2 _ _ (0, 0) FS.out
        have y3 := cell_of_row _ (bs) 3 _ _ (0, 0) FS.out
        have ub0 := FA.out
        have uz0 := cell_of_row _ (ba) 0 _ _ (0, 0) ub0
        have ug0 := frozen_of_row _ (ba) 0 _ _ ub0
        have ub1 := blk_set ub0 0 (.bool s1)
        have uz1 := cell_of_row _ (ba) 1 _ _ (0, 0) ub1
        have ug1 := frozen_of_row _ (ba) 1 _ _ ub1
        have ub2 := blk_set ub1 1 (.slice s2 s3 s4)
        have uz2 := cell_of_row _ (ba) 2 _ _ (0, 0) ub2
        have ug2 := frozen_of_row _ (ba) 2 _ _ ub2
        have ub3 := blk_set ub2 2 (.bool s5)
        have uz3 := cell_of_row _ (ba) 3 _ _ (0, 0) ub3
        have ug3 := frozen_of_row _ (ba) 3 _ _ ub3
        have ub4 := blk_set ub3 3 (.slice s6 s7 s8)
        simp only [List.setIfInBounds_toArray, List.set_cons_zero, List.set_cons_succ] at uz0 uz1 uz2 uz3
        have uL := Lib.hid ub4
        clear ub0 ub1 ub2 ub3 ub4
        have NBA : BoxN w6 ba := ⟨_, _, _, FA.out, rat_noint _ _ _ _ _ _ _ _⟩
        have RS : Hid ((⟨⟨s1, s2, s3, s4⟩, ⟨s5, s6, s7, s8⟩, sq⟩ : RV).rd ((((w6.setCell ⟨ba, 0, none⟩ (.bool s1)).setCell ⟨ba, 1, none⟩ (.slice s2 s3 s4)).setCell ⟨ba, 2, none⟩ (.bool s5)).setCell ⟨ba, 3, none⟩ (.slice s6 s7 s8)) (fun x => S x ∨ w.heap.size ≤ x) k) := st4_rv RS.out NBA _ _ _ _ (sl_noint _ _ _) (sl_noint _ _ _)
        have RTT : Hid ((⟨⟨t1, t2, t3, t4⟩, ⟨t5, t6, t7, t8⟩, tq⟩ : RV).rd ((((w6.setCell ⟨ba, 0, none⟩ (.bool s1)).setCell ⟨ba, 1, none⟩ (.slice s2 s3 s4)).setCell ⟨ba, 2, none⟩ (.bool s5)).setCell ⟨ba, 3, none⟩ (.slice s6 s7 s8)) (fun x => S x ∨ w.heap.size ≤ x) k) := st4_rv RTT.out NBA _ _ _ _ (sl_noint _ _ _) (sl_noint _ _ _)
        have RB : Hid ((⟨⟨b1, b2, b3, b4⟩, ⟨b5, b6, b7, b8⟩, bq⟩ : RV).rd ((((w6.setCell ⟨ba, 0, none⟩ (.bool s1)).setCell ⟨ba, 1, none⟩ (.slice s2 s3 s4)).setCell ⟨ba, 2, none⟩ (.bool s5)).setCell ⟨ba, 3, none⟩ (.slice s6 s7 s8)) (fun x => S x ∨ w.heap.size ≤ x) k) := st4_rv RB.out NBA _ _ _ _ (sl_noint _ _ _) (sl_noint _ _ _)
        have FT : Hid (((((w6.setCell ⟨ba, 0, none⟩ (.bool s1)).setCell ⟨ba, 1, none⟩ (.slice s2 s3 s4)).setCell ⟨ba, 2, none⟩ (.bool s5)).setCell ⟨ba, 3, none⟩ (.slice s6 s7 s8)).heap[bt]? = some (.cells #[.bool t1, .slice t2 t3 t4, .bool t5, .slice t6 t7 t8] 35 (0, 0))) := (st4_other NB.out.2.1 _ _ _ _).trans FT.out
        have FB : Hid (((((w6.setCell ⟨ba, 0, none⟩ (.bool s1)).setCell ⟨ba, 1, none⟩ (.slice s2 s3 s4)).setCell ⟨ba, 2, none⟩ (.bool s5)).setCell ⟨ba, 3, none⟩ (.slice s6 s7 s8)).heap[bb]? = some (.cells #[.bool b1, .slice b2 b3 b4, .bool b5, .slice b6 b7 b8] 35 (0, 0))) := (st4_other NN.out.2.1 _ _ _ _).trans FB.out
        have F0 : Hid (((((w6.setCell ⟨ba, 0, none⟩ (.bool s1)).setCell ⟨ba, 1, none⟩ (.slice s2 s3 s4)).setCell ⟨ba, 2, none⟩ (.bool s5)).setCell ⟨ba, 3, none⟩ (.slice s6 s7 s8)).heap[r0]? = some (.cells #[.bool false, .slice none 0 0, .bool false, .slice none 0 0] 35 (0, 0))) := (st4_other NN.out.2.2.2.2.1 _ _ _ _).trans F0.out
        have F1 : Hid (((((w6.setCell ⟨ba, 0, none⟩ (.bool s1)).setCell ⟨ba, 1, none⟩ (.slice s2 s3 s4)).setCell ⟨ba, 2, none⟩ (.bool s5)).setCell ⟨ba, 3, none⟩ (.slice s6 s7 s8)).heap[r1]? = some (.cells #[.bool false, .slice none 0 0, .bool false, .slice none 0 0] 35 (0, 0))) := (st4_other NN.out.2.2.2.2.2.2.1 _ _ _ _).trans F1.out
        have FA : Hid (((((w6.setCell ⟨ba, 0, none⟩ (.bool s1)).setCell ⟨ba, 1, none⟩ (.slice s2 s3 s4)).setCell ⟨ba, 2, none⟩ (.bool s5)).setCell ⟨ba, 3, none⟩ (.slice s6 s7 s8)).heap[ba]? = some (.cells #[.bool s1, .slice s2 s3 s4, .bool s5, .slice s6 s7 s8] 35 (0, 0))) := uL.out
        have GW : Hid (Grow w ((((w6.setCell ⟨ba, 0, none⟩ (.bool s1)).setCell ⟨ba, 1, none⟩ (.slice s2 s3 s4)).setCell ⟨ba, 2, none⟩ (.bool s5)).setCell ⟨ba, 3, none⟩ (.slice s6 s7 s8))) := GW.out.st4 LE.out.1 _ _ _ _
        clear NBA uL
        go_upto_region 9 with fail
        clear y0 y1 y2 y3 hc1 uz0 ug0 uz1 ug1 uz2 ug2 uz3 ug3
        generalize ((((w6.setCell ⟨ba, 0, none⟩ (.bool s1)).setCell ⟨ba, 1, none⟩ (.slice s2 s3 s4)).setCell ⟨ba, 2, none⟩ (.bool s5)).setCell ⟨ba, 3, none⟩ (.slice s6 s7 s8)) = w7 at *
        have y0 := cell_of_row _ (bt) 0 _ _ (0, 0) FT.out
        have y1 := cell_of_row _ (bt) 1 _ _ (0, 0) FT.out
        have y2 := cell_of_row _ (bt) 2 _ _ (0, 0) FT.out
        have y3 := cell_of_row _ (bt) 3 _ _ (0, 0) FT.out
        have x0 := cell_of_row _ (bb) 0 _ _ (0, 0) FB.out
        have x1 := cell_of_row _ (bb) 1 _ _ (0, 0) FB.out
        have x2 := cell_of_row _ (bb) 2 _ _ (0, 0) FB.out
        have x3 := cell_of_row _ (bb) 3 _ _ (0, 0) FB.out
        go_wp2_with fail
        go_at_call 29
        refine O2.out _ _ RTT.out RB.out _ ?_
        intro w8 hg8
        clear y0 y1 y2 y3 x0 x1 x2 x3 O2
        have RTT := Lib.hid (RTT.out.gr hg8)
        have RB := Lib.hid (RB.out.gr hg8)
        have RS := Lib.hid (RS.out.gr hg8)
        have FT := Lib.hid (grow_blk hg8 FT.out)
        have FA := Lib.hid (grow_blk hg8 FA.out)
        have FB := Lib.hid (grow_blk hg8 FB.out)
        have F0 := Lib.hid (grow_blk hg8 F0.out)
        have F1 := Lib.hid (grow_blk hg8 F1.out)
        have GW := Lib.hid (GW.out.tr hg8)
        clear hg8
        cases c2 with
        | true =>
          have y0 := cell_of_row _ (bt) 0 _ _ (0, 0) FT.out
          have y1 := cell_of_row _ (bt) 1 _ _ (0, 0) FT.out
          have y2 := cell_of_row _ (bt) 2 _ _ (0, 0) FT.out
          have y3 := cell_of_row _ (bt) 3 _ _ (0, 0) FT.out
          have ub0 := FB.out
          have uz0 := cell_of_row _ (bb) 0 _ _ (0, 0) ub0
          have ug0 := frozen_of_row _ (bb) 0 _ _ ub0
          have ub1 := blk_set ub0 0 (.bool t1)
          have uz1 := cell_of_row _ (bb) 1 _ _ (0, 0) ub1
          have ug1 := frozen_of_row _ (bb) 1 _ _ ub1
          have ub2 := blk_set ub1 1 (.slice t2 t3 t4)
          have uz2 := cell_of_row _ (bb) 2 _ _ (0, 0) ub2
          have ug2 := frozen_of_row _ (bb) 2 _ _ ub2
          have ub3 := blk_set ub2 2 (.bool t5)
          have uz3 := cell_of_row _ (bb) 3 _ _ (0, 0) ub3
          have ug3 := frozen_of_row _ (bb) 3 _ _ ub3
          have ub4 := blk_set ub3 3 (.slice t6 t7 t8)
          simp only [List.setIfInBounds_toArray, List.set_cons_zero, List.set_cons_succ] at uz0 uz1 uz2 uz3
          have uL := Lib.hid ub4
          clear ub0 ub1 ub2 ub3 ub4
          have NBB : BoxN w8 bb := ⟨_, _, _, FB.out, rat_noint _ _ _ _ _ _ _ _⟩
          have RS : Hid ((⟨⟨s1, s2, s3, s4⟩, ⟨s5, s6, s7, s8⟩, sq⟩ : RV).rd ((((w8.setCell ⟨bb, 0, none⟩ (.bool t1)).setCell ⟨bb, 1, none⟩ (.slice t2 t3 t4)).setCell ⟨bb, 2, none⟩ (.bool t5)).setCell ⟨bb, 3, none⟩ (.slice t6 t7 t8)) (fun x => S x ∨ w.heap.size ≤ x) k) := st4_rv RS.out NBB _ _ _ _ (sl_noint _ _ _) (sl_noint _ _ _)
          have RTT : Hid ((⟨⟨t1, t2, t3, t4⟩, ⟨t5, t6, t7, t8⟩, tq⟩ : RV).rd ((((w8.setCell ⟨bb, 0, none⟩ (.bool t1)).setCell ⟨bb, 1, none⟩ (.slice t2 t3 t4)).setCell ⟨bb, 2, none⟩ (.bool t5)).setCell ⟨bb, 3, none⟩ (.slice t6 t7 t8)) (fun x => S x ∨ w.heap.size ≤ x) k) := st4_rv RTT.out NBB _ _ _ _ (sl_noint _ _ _) (sl_noint _ _ _)
          have FA : Hid (((((w8.setCell ⟨bb, 0, none⟩ (.bool t1)).setCell ⟨bb, 1, none⟩ (.slice t2 t3 t4)).setCell ⟨bb, 2, none⟩ (.bool t5)).setCell ⟨bb, 3, none⟩ (.slice t6 t7 t8)).heap[ba]? = some (.cells #[.bool s1, .slice s2 s3 s4, .bool s5, .slice s6 s7 s8] 35 (0, 0))) := (st4_other NN.out.1 _ _ _ _).trans FA.out
          have F0 : Hid (((((w8.setCell ⟨bb, 0, none⟩ (.bool t1)).setCell ⟨bb, 1, none⟩ (.slice t2 t3 t4)).setCell ⟨bb, 2, none⟩ (.bool t5)).setCell ⟨bb, 3, none⟩ (.slice t6 t7 t8)).heap[r0]? = some (.cells #[.bool false, .slice none 0 0, .bool false, .slice none 0 0] 35 (0, 0))) := (st4_other NN.out.2.2.2.2.2.1 _ _ _ _).trans F0.out
          have F1 : Hid (((((w8.setCell ⟨bb, 0, none⟩ (.bool t1)).setCell ⟨bb, 1, none⟩ (.slice t2 t3 t4)).setCell ⟨bb, 2, none⟩ (.bool t5)).setCell ⟨bb, 3, none⟩ (.slice t6 t7 t8)).heap[r1]? = some (.cells #[.bool false, .slice none 0 0, .bool false, .slice none 0 0] 35 (0, 0))) := (st4_other NN.out.2.2.2.2.2.2.2 _ _ _ _).trans F1.out
          have FB : Hid (((((w8.setCell ⟨bb, 0, none⟩ (.bool t1)).setCell ⟨bb, 1, none⟩ (.slice t2 t3 t4)).setCell ⟨bb, 2, none⟩ (.bool t5)).setCell ⟨bb, 3, none⟩ (.slice t6 t7 t8)).heap[bb]? = some (.cells #[.bool t1, .slice t2 t3 t4, .bool t5, .slice t6 t7 t8] 35 (0, 0))) := uL.out
          have GW : Hid (Grow w ((((w8.setCell ⟨bb, 0, none⟩ (.bool t1)).setCell ⟨bb, 1, none⟩ (.slice t2 t3 t4)).setCell ⟨bb, 2, none⟩ (.bool t5)).setCell ⟨bb, 3, none⟩ (.slice t6 t7 t8))) := GW.out.st4 LE.out.2.1 _ _ _ _
          clear NBB uL
          go_upto_region 11 with fail
          clear y0 y1 y2 y3 hc2 uz0 ug0 uz1 ug1 uz2 ug2 uz3 ug3
          generalize ((((w8.setCell ⟨bb, 0, none⟩ (.bool t1)).setCell ⟨bb, 1, none⟩ (.slice t2 t3 t4)).setCell ⟨bb, 2, none⟩ (.bool t5)).setCell ⟨bb, 3, none⟩ (.slice t6 t7 t8)) = w9 at *
          have RX := Lib.hid RS.out
          have RY := Lib.hid RTT.out
          have EV : Hid (slabQ aq bq p q lo hi = (sq, tq, decide (cmpR sq tq ≤ 0))) := by
            show _ = _
            unfold slabQ
            rw [if_neg HPQ2.out, HV.out.1, HV.out.2, ← QS.out, ← QT.out]
            simp only [E1.out, E2.out, if_true, cmpR_le]
          rw [EV.out] at HR
          have O3 := Lib.hid fun W T (h1 : (⟨⟨s1, s2, s3, s4⟩, ⟨s5, s6, s7, s8⟩, sq⟩ : RV).rd W T k) (h2 : (⟨⟨t1, t2, t3, t4⟩, ⟨t5, t6, t7, t8⟩, tq⟩ : RV).rd W T k) (R : Ending → World → Prop) hR => order_q _ _ k k T T W h1 h2 HK.out.2 HK.out.2 (R := R) hR
          dsimp only at O3
          generalize cmpR sq tq = m3 at *
          unfold RV.cells at O3
          dsimp only at O3
          clear EV E1 E2 QS QT HV
          have HG := Lib.hid ((Grow.refl w9).dr)
          have RX := Lib.hid (RX.out.gr HG.out)
          have RY := Lib.hid (RY.out.gr HG.out)
          have FA := Lib.hid (grow_blk HG.out FA.out)
          have FB := Lib.hid (grow_blk HG.out FB.out)
          have F0 := Lib.hid (grow_blk HG.out F0.out)
          have F1 := Lib.hid (grow_blk HG.out F1.out)
          have GW := Lib.hid (GW.out.tr HG.out)
          clear HG
          refine wp_region_lexT (fun W => Grow w W ∧ (∀ i, i = ba ∨ i = bb → W.heap[i]? = w9.drew.heap[i]?)) (⟨GW.out, fun _ _ => rfl⟩) 8 [0, 1, 2, 3, 4, 5, 6, 7] (by kernel_rfl) (by kernel_rfl) (by intro c a d v w h; cases d <;> exact h) ?_
          iterate 4 (apply lext_take; exact rfl; exact rfl; (intro W hW; have fa := (hW.2 ba (.inl rfl)).trans FA.out; have fb := (hW.2 bb (.inr rfl)).trans FB.out; have z0 := cell_of_row _ ba 0 _ _ (0, 0) fa; have y0 := cell_of_row _ bb 0 _ _ (0, 0) fb; have z1 := cell_of_row _ ba 1 _ _ (0, 0) fa; have y1 := cell_of_row _ bb 1 _ _ (0, 0) fb; have z2 := cell_of_row _ ba 2 _ _ (0, 0) fa; have y2 := cell_of_row _ bb 2 _ _ (0, 0) fb; have z3 := cell_of_row _ ba 3 _ _ (0, 0) fa; have y3 := cell_of_row _ bb 3 _ _ (0, 0) fb; clear fa fb; (try clear hW); go_simp; with_reducible rfl); try simp only [Act.put, List.setIfInBounds_toArray, List.set_cons_zero, List.set_cons_succ])
          generalize w9.drew = wb at *
          apply lext_turn; exact rfl; exact rfl; exact rfl; intro K hK; go_simp; go_at_call 29; refine O3.out _ _ RX.out RY.out _ ?_; intro wc hgc
          have FE : Hid (∀ i, i = ba ∨ i = bb → wc.heap[i]? = wb.heap[i]?) := fun i hi => Or.elim hi (fun e => by rw [e]; exact hgc.block _ (lt_of_block FA.out)) (fun e => by rw [e]; exact hgc.block _ (lt_of_block FB.out))
          have RX := Lib.hid (RX.out.gr hgc)
          have RY := Lib.hid (RY.out.gr hgc)
          have F0 := Lib.hid (grow_blk hgc F0.out)
          have F1 := Lib.hid (grow_blk hgc F1.out)
          have GW := Lib.hid (GW.out.tr hgc)
          refine hK.out _ _ ⟨GW.out, FE.out⟩ ?_
          clear hK hgc O3
          try simp only [Act.put, List.setIfInBounds_toArray, List.set_cons_zero, List.set_cons_succ]
          iterate 1 (apply lext_take; exact rfl; exact rfl; (intro W hW; (try clear hW); go_simp; with_reducible rfl); try simp only [Act.put, List.setIfInBounds_toArray, List.set_cons_zero, List.set_cons_succ])
          have ub0 := F0.out
          have uz0 := cell_of_row _ (r0) 0 _ _ (0, 0) ub0
          have ug0 := frozen_of_row _ (r0) 0 _ _ ub0
          have ub1 := blk_set ub0 0 (.bool s1)
          have uz1 := cell_of_row _ (r0) 1 _ _ (0, 0) ub1
          have ug1 := frozen_of_row _ (r0) 1 _ _ ub1
          have ub2 := blk_set ub1 1 (.slice s2 s3 s4)
          have uz2 := cell_of_row _ (r0) 2 _ _ (0, 0) ub2
          have ug2 := frozen_of_row _ (r0) 2 _ _ ub2
          have ub3 := blk_set ub2 2 (.bool s5)
          have uz3 := cell_of_row _ (r0) 3 _ _ (0, 0) ub3
          have ug3 := frozen_of_row _ (r0) 3 _ _ ub3
          have ub4 := blk_set ub3 3 (.slice s6 s7 s8)
          simp only [List.setIfInBounds_toArray, List.set_cons_zero, List.set_cons_succ] at uz0 uz1 uz2 uz3
          have uL := Lib.hid ub4
          clear ub0 ub1 ub2 ub3 ub4
          have F1c := (st4_other (W := wc) (b := r0) (c := r1) NN.out.2.2.2.1 (.bool s1) (.slice s2 s3 s4) (.bool s5) (.slice s6 s7 s8)).trans F1.out
          unfold st4 at F1c
          have vb0 := F1c
          have vz0 := cell_of_row _ (r1) 0 _ _ (0, 0) vb0
          have vg0 := frozen_of_row _ (r1) 0 _ _ vb0
          have vb1 := blk_set vb0 0 (.bool t1)
          have vz1 := cell_of_row _ (r1) 1 _ _ (0, 0) vb1
          have vg1 := frozen_of_row _ (r1) 1 _ _ vb1
          have vb2 := blk_set vb1 1 (.slice t2 t3 t4)
          have vz2 := cell_of_row _ (r1) 2 _ _ (0, 0) vb2
          have vg2 := frozen_of_row _ (r1) 2 _ _ vb2
          have vb3 := blk_set vb2 2 (.bool t5)
          have vz3 := cell_of_row _ (r1) 3 _ _ (0, 0) vb3
          have vg3 := frozen_of_row _ (r1) 3 _ _ vb3
          have vb4 := blk_set vb3 3 (.slice t6 t7 t8)
          simp only [List.setIfInBounds_toArray, List.set_cons_zero, List.set_cons_succ] at vz0 vz1 vz2 vz3
          have vL := Lib.hid vb4
          clear vb0 vb1 vb2 vb3 vb4
          have R0L : ((((((((wc.setCell ⟨r0, 0, none⟩ (.bool s1)).setCell ⟨r0, 1, none⟩ (.slice s2 s3 s4)).setCell ⟨r0, 2, none⟩ (.bool s5)).setCell ⟨r0, 3, none⟩ (.slice s6 s7 s8)).setCell ⟨r1, 0, none⟩ (.bool t1)).setCell ⟨r1, 1, none⟩ (.slice t2 t3 t4)).setCell ⟨r1, 2, none⟩ (.bool t5)).setCell ⟨r1, 3, none⟩ (.slice t6 t7 t8)).heap[r0]? = some (.cells #[.bool s1, .slice s2 s3 s4, .bool s5, .slice s6 s7 s8] 35 (0, 0)) := (st4_other (W := ((((wc.setCell ⟨r0, 0, none⟩ (.bool s1)).setCell ⟨r0, 1, none⟩ (.slice s2 s3 s4)).setCell ⟨r0, 2, none⟩ (.bool s5)).setCell ⟨r0, 3, none⟩ (.slice s6 s7 s8))) (b := r1) (c := r0) NN.out.2.2.1 (.bool t1) (.slice t2 t3 t4) (.bool t5) (.slice t6 t7 t8)).trans uL.out
          have R1L : ((((((((wc.setCell ⟨r0, 0, none⟩ (.bool s1)).setCell ⟨r0, 1, none⟩ (.slice s2 s3 s4)).setCell ⟨r0, 2, none⟩ (.bool s5)).setCell ⟨r0, 3, none⟩ (.slice s6 s7 s8)).setCell ⟨r1, 0, none⟩ (.bool t1)).setCell ⟨r1, 1, none⟩ (.slice t2 t3 t4)).setCell ⟨r1, 2, none⟩ (.bool t5)).setCell ⟨r1, 3, none⟩ (.slice t6 t7 t8)).heap[r1]? = some (.cells #[.bool t1, .slice t2 t3 t4, .bool t5, .slice t6 t7 t8] 35 (0, 0)) := vL.out
          have y0 := cell_of_row _ (r0) 0 _ _ (0, 0) R0L
          have y1 := cell_of_row _ (r0) 1 _ _ (0, 0) R0L
          have y2 := cell_of_row _ (r0) 2 _ _ (0, 0) R0L
          have y3 := cell_of_row _ (r0) 3 _ _ (0, 0) R0L
          have x0 := cell_of_row _ (r1) 0 _ _ (0, 0) R1L
          have x1 := cell_of_row _ (r1) 1 _ _ (0, 0) R1L
          have x2 := cell_of_row _ (r1) 2 _ _ (0, 0) R1L
          have x3 := cell_of_row _ (r1) 3 _ _ (0, 0) R1L
          have GF : Hid (Grow w ((((((((wc.setCell ⟨r0, 0, none⟩ (.bool s1)).setCell ⟨r0, 1, none⟩ (.slice s2 s3 s4)).setCell ⟨r0, 2, none⟩ (.bool s5)).setCell ⟨r0, 3, none⟩ (.slice s6 s7 s8)).setCell ⟨r1, 0, none⟩ (.bool t1)).setCell ⟨r1, 1, none⟩ (.slice t2 t3 t4)).setCell ⟨r1, 2, none⟩ (.bool t5)).setCell ⟨r1, 3, none⟩ (.slice t6 t7 t8))) := ((GW.out).st4 LE.out.2.2.1 _ _ _ _).st4 LE.out.2.2.2 _ _ _ _
          have GH : Hid (Grow w ((((wc.setCell ⟨r0, 0, none⟩ (.bool s1)).setCell ⟨r0, 1, none⟩ (.slice s2 s3 s4)).setCell ⟨r0, 2, none⟩ (.bool s5)).setCell ⟨r0, 3, none⟩ (.slice s6 s7 s8))) := (GW.out).st4 LE.out.2.2.1 _ _ _ _
          have N0 : BoxN wc r0 := ⟨_, _, _, F0.out, rat_noint _ _ _ _ _ _ _ _⟩
          have N1 : BoxN wc r1 := ⟨_, _, _, F1.out, rat_noint _ _ _ _ _ _ _ _⟩
          have RXF : Hid ((⟨⟨s1, s2, s3, s4⟩, ⟨s5, s6, s7, s8⟩, sq⟩ : RV).rd ((((((((wc.setCell ⟨r0, 0, none⟩ (.bool s1)).setCell ⟨r0, 1, none⟩ (.slice s2 s3 s4)).setCell ⟨r0, 2, none⟩ (.bool s5)).setCell ⟨r0, 3, none⟩ (.slice s6 s7 s8)).setCell ⟨r1, 0, none⟩ (.bool t1)).setCell ⟨r1, 1, none⟩ (.slice t2 t3 t4)).setCell ⟨r1, 2, none⟩ (.bool t5)).setCell ⟨r1, 3, none⟩ (.slice t6 t7 t8)) (fun x => S x ∨ w.heap.size ≤ x) k) := st4_rv (st4_rv RX.out N0 _ _ _ _ (sl_noint _ _ _) (sl_noint _ _ _)) (N1.st4 r0 _ _ _ _ (sl_noint _ _ _) (sl_noint _ _ _)) _ _ _ _ (sl_noint _ _ _) (sl_noint _ _ _)
          have RYF : Hid ((⟨⟨t1, t2, t3, t4⟩, ⟨t5, t6, t7, t8⟩, tq⟩ : RV).rd ((((((((wc.setCell ⟨r0, 0, none⟩ (.bool s1)).setCell ⟨r0, 1, none⟩ (.slice s2 s3 s4)).setCell ⟨r0, 2, none⟩ (.bool s5)).setCell ⟨r0, 3, none⟩ (.slice s6 s7 s8)).setCell ⟨r1, 0, none⟩ (.bool t1)).setCell ⟨r1, 1, none⟩ (.slice t2 t3 t4)).setCell ⟨r1, 2, none⟩ (.bool t5)).setCell ⟨r1, 3, none⟩ (.slice t6 t7 t8)) (fun x => S x ∨ w.heap.size ≤ x) k) := st4_rv (st4_rv RY.out N0 _ _ _ _ (sl_noint _ _ _) (sl_noint _ _ _)) (N1.st4 r0 _ _ _ _ (sl_noint _ _ _) (sl_noint _ _ _)) _ _ _ _ (sl_noint _ _ _) (sl_noint _ _ _)
          clear F1c N0 N1 R0L R1L
          apply lext_turn; exact rfl; exact rfl; exact rfl; intro K hK; go_simp; skip
          refine hK.out _ _ ⟨GH.out, fun i hi => Or.elim hi (fun e => by rw [e]; exact (st4_other NN.out.2.2.2.2.1.symm _ _ _ _).trans (FE.out _ (.inl rfl))) (fun e => by rw [e]; exact (st4_other NN.out.2.2.2.2.2.1.symm _ _ _ _).trans (FE.out _ (.inr rfl)))⟩ ?_
          clear hK
          try simp only [Act.put, List.setIfInBounds_toArray, List.set_cons_zero, List.set_cons_succ]
          apply lext_turn; exact rfl; exact rfl; exact rfl; intro K hK; go_simp; skip
          refine hK.out _ _ ⟨GF.out, fun i hi => Or.elim hi (fun e => by rw [e]; exact (st4_other NN.out.2.2.2.2.2.2.1.symm _ _ _ _).trans ((st4_other NN.out.2.2.2.2.1.symm _ _ _ _).trans (FE.out _ (.inl rfl)))) (fun e => by rw [e]; exact (st4_other NN.out.2.2.2.2.2.2.2.symm _ _ _ _).trans ((st4_other NN.out.2.2.2.2.2.1.symm _ _ _ _).trans (FE.out _ (.inr rfl))))⟩ ?_
          clear hK
          try simp only [Act.put, List.setIfInBounds_toArray, List.set_cons_zero, List.set_cons_succ]
          refine lext_nil ?_
          simp only [List.drop_succ_cons, List.drop_zero]
          go_wp2
          exact bodyPost_ret (v := .tuple #[.agg #[.bool s1, .slice s2 s3 s4, .bool s5, .slice s6 s7 s8], .agg #[.bool t1, .slice t2 t3 t4, .bool t5, .slice t6 t7 t8], .bool (decide (m3 ≤ 0))]) (by simp [results, Try.f44, go_sem, y0, y1, y2, y3, x0, x1, x2, x3]) rfl (HR.out (⟨⟨s1, s2, s3, s4⟩, ⟨s5, s6, s7, s8⟩, sq⟩ : RV) (⟨⟨t1, t2, t3, t4⟩, ⟨t5, t6, t7, t8⟩, tq⟩ : RV) _ _ GF.out rfl RXF.out RYF.out)
        | false =>
          go_upto_region 11 with fail
          clear hc2
          generalize w8 = w9 at *
          have RX := Lib.hid RS.out
          have RY := Lib.hid RB.out
          have EV : Hid (slabQ aq bq p q lo hi = (sq, bq, decide (cmpR sq bq ≤ 0))) := by
            show _ = _
            unfold slabQ
            rw [if_neg HPQ2.out, HV.out.1, HV.out.2, ← QS.out, ← QT.out]
            simp only [E1.out, E2.out, if_true, Bool.false_eq_true, if_false, cmpR_le]
          rw [EV.out] at HR
          have O3 := Lib.hid fun W T (h1 : (⟨⟨s1, s2, s3, s4⟩, ⟨s5, s6, s7, s8⟩, sq⟩ : RV).rd W T k) (h2 : (⟨⟨b1, b2, b3, b4⟩, ⟨b5, b6, b7, b8⟩, bq⟩ : RV).rd W T k) (R : Ending → World → Prop) hR => order_q _ _ k k T T W h1 h2 HK.out.2 HK.out.2 (R := R) hR
          dsimp only at O3
          generalize cmpR sq bq = m3 at *
          unfold RV.cells at O3
          dsimp only at O3
          clear EV E1 E2 QS QT HV
          have HG := Lib.hid ((Grow.refl w9).dr)
          have RX := Lib.hid (RX.out.gr HG.out)
          have RY := Lib.hid (RY.out.gr HG.out)
          have FA := Lib.hid (grow_blk HG.out FA.out)
          have FB := Lib.hid (grow_blk HG.out FB.out)
          have F0 := Lib.hid (grow_blk HG.out F0.out)
          have F1 := Lib.hid (grow_blk HG.out F1.out)
          have GW := Lib.hid (GW.out.tr HG.out)
          clear HG
          refine wp_region_lexT (fun W => Grow w W ∧ (∀ i, i = ba ∨ i = bb → W.heap[i]? = w9.drew.heap[i]?)) (⟨GW.out, fun _ _ => rfl⟩) 8 [0, 1, 2, 3, 4, 5, 6, 7] (by kernel_rfl) (by kernel_rfl) (by intro c a d v w h; cases d <;> exact h) ?_
          iterate 4 (apply lext_take; exact rfl; exact rfl; (intro W hW; have fa := (hW.2 ba (.inl rfl)).trans FA.out; have fb := (hW.2 bb (.inr rfl)).trans FB.out; have z0 := cell_of_row _ ba 0 _ _ (0, 0) fa; have y0 := cell_of_row _ bb 0 _ _ (0, 0) fb; have z1 := cell_of_row _ ba 1 _ _ (0, 0) fa; have y1 := cell_of_row _ bb 1 _ _ (0, 0) fb; have z2 := cell_of_row _ ba 2 _ _ (0, 0) fa; have y2 := cell_of_row _ bb 2 _ _ (0, 0) fb; have z3 := cell_of_row _ ba 3 _ _ (0, 0) fa; have y3 := cell_of_row _ bb 3 _ _ (0, 0) fb; clear fa fb; (try clear hW); go_simp; with_reducible rfl); try simp only [Act.put, List.setIfInBounds_toArray, List.set_cons_zero, List.set_cons_succ])
          generalize w9.drew = wb at *
          apply lext_turn; exact rfl; exact rfl; exact rfl; intro K hK; go_simp; go_at_call 29; refine O3.out _ _ RX.out RY.out _ ?_; intro wc hgc
          have FE : Hid (∀ i, i = ba ∨ i = bb → wc.heap[i]? = wb.heap[i]?) := fun i hi => Or.elim hi (fun e => by rw [e]; exact hgc.block _ (lt_of_block FA.out)) (fun e => by rw [e]; exact hgc.block _ (lt_of_block FB.out))
          have RX := Lib.hid (RX.out.gr hgc)
          have RY := Lib.hid (RY.out.gr hgc)
          have F0 := Lib.hid (grow_blk hgc F0.out)
          have F1 := Lib.hid (grow_blk hgc F1.out)
          have GW := Lib.hid (GW.out.tr hgc)
          refine hK.out _ _ ⟨GW.out, FE.out⟩ ?_
          clear hK hgc O3
          try simp only [Act.put, List.setIfInBounds_toArray, List.set_cons_zero, List.set_cons_succ]
          iterate 1 (apply lext_take; exact rfl; exact rfl; (intro W hW; (try clear hW); go_simp; with_reducible rfl); try simp only [Act.put, List.setIfInBounds_toArray, List.set_cons_zero, List.set_cons_succ])
          have ub0 := F0.out
          have uz0 := cell_of_row _ (r0) 0 _ _ (0, 0) ub0
          have ug0 := frozen_of_row _ (r0) 0 _ _ ub0
          have ub1 := blk_set ub0 0 (.bool s1)
          have uz1 := cell_of_row _ (r0) 1 _ _ (0, 0) ub1
          have ug1 := frozen_of_row _ (r0) 1 _ _ ub1
          have ub2 := blk_set ub1 1 (.slice s2 s3 s4)
          have uz2 := cell_of_row _ (r0) 2 _ _ (0, 0) ub2
          have ug2 := frozen_of_row _ (r0) 2 _ _ ub2
          have ub3 := blk_set ub2 2 (.bool s5)
          have uz3 := cell_of_row _ (r0) 3 _ _ (0, 0) ub3
          have ug3 := frozen_of_row _ (r0) 3 _ _ ub3
          have ub4 := blk_set ub3 3 (.slice s6 s7 s8)
          simp only [List.setIfInBounds_toArray, List.set_cons_zero, List.set_cons_succ] at uz0 uz1 uz2 uz3
          have uL := Lib.hid ub4
          clear ub0 ub1 ub2 ub3 ub4
          have F1c := (st4_other (W := wc) (b := r0) (c := r1) NN.out.2.2.2.1 (.bool s1) (.slice s2 s3 s4) (.bool s5) (.slice s6 s7 s8)).trans F1.out
          unfold st4 at F1c
          have vb0 := F1c
          have vz0 := cell_of_row _ (r1) 0 _ _ (0, 0) vb0
          have vg0 := frozen_of_row _ (r1) 0 _ _ vb0
          have vb1 := blk_set vb0 0 (.bool b1)
          have vz1 := cell_of_row _ (r1) 1 _ _ (0, 0) vb1
          have vg1 := frozen_of_row _ (r1) 1 _ _ vb1
          have vb2 := blk_set vb1 1 (.slice b2 b3 b4)
          have vz2 := cell_of_row _ (r1) 2 _ _ (0, 0) vb2
          have vg2 := frozen_of_row _ (r1) 2 _ _ vb2
          have vb3 := blk_set vb2 2 (.bool b5)
          have vz3 := cell_of_row _ (r1) 3 _ _ (0, 0) vb3
          have vg3 := frozen_of_row _ (r1) 3 _ _ vb3
          have vb4 := blk_set vb3 3 (.slice b6 b7 b8)
          simp only [List.setIfInBounds_toArray, List.set_cons_zero, List.set_cons_succ] at vz0 vz1 vz2 vz3
          have vL := Lib.hid vb4
          clear vb0 vb1 vb2 vb3 vb4
          have R0L : ((((((((wc.setCell ⟨r0, 0, none⟩ (.bool s1)).setCell ⟨r0, 1, none⟩ (.slice s2 s3 s4)).setCell ⟨r0, 2, none⟩ (.bool s5)).setCell ⟨r0, 3, none⟩ (.slice s6 s7 s8)).setCell ⟨r1, 0, none⟩ (.bool b1)).setCell ⟨r1, 1, none⟩ (.slice b2 b3 b4)).setCell ⟨r1, 2, none⟩ (.bool b5)).setCell ⟨r1, 3, none⟩ (.slice b6 b7 b8)).heap[r0]? = some (.cells #[.bool s1, .slice s2 s3 s4, .bool s5, .slice s6 s7 s8] 35 (0, 0)) := (st4_other (W := ((((wc.setCell ⟨r0, 0, none⟩ (.bool s1)).setCell ⟨r0, 1, none⟩ (.slice s2 s3 s4)).setCell ⟨r0, 2, none⟩ (.bool s5)).setCell ⟨r0, 3, none⟩ (.slice s6 s7 s8))) (b := r1) (c := r0) NN.out.2.2.1 (.bool b1) (.slice b2 b3 b4) (.bool b5) (.slice b6 b7 b8)).trans uL.out
          have R1L : ((((((((wc.setCell ⟨r0, 0, none⟩ (.bool s1)).setCell ⟨r0, 1, none⟩ (.slice s2 s3 s4)).setCell ⟨r0, 2, none⟩ (.bool s5)).setCell ⟨r0, 3, none⟩ (.slice s6 s7 s8)).setCell ⟨r1, 0, none⟩ (.bool b1)).setCell ⟨r1, 1, none⟩ (.slice b2 b3 b4)).setCell ⟨r1, 2, none⟩ (.bool b5)).setCell ⟨r1, 3, none⟩ (.slice b6 b7 b8)).heap[r1]? = some (.cells #[.bool b1, .slice b2 b3 b4, .bool b5, .slice b6 b7 b8] 35 (0, 0)) := vL.out
          have y0 := cell_of_row _ (r0) 0 _ _ (0, 0) R0L
          have y1 := cell_of_row _ (r0) 1 _ _ (0, 0) R0L
          have y2 := cell_of_row _ (r0) 2 _ _ (0, 0) R0L
          have y3 := cell_of_row _ (r0) 3 _ _ (0, 0) R0L
          have x0 := cell_of_row _ (r1) 0 _ _ (0, 0) R1L
          have x1 := cell_of_row _ (r1) 1 _ _ (0, 0) R1L
          have x2 := cell_of_row _ (r1) 2 _ _ (0, 0) R1L
          have x3 := cell_of_row _ (r1) 3 _ _ (0, 0) R1L
          have GF : Hid (Grow w ((((((((wc.setCell ⟨r0, 0, none⟩ (.bool s1)).setCell ⟨r0, 1, none⟩ (.slice s2 s3 s4)).setCell ⟨r0, 2, none⟩ (.bool s5)).setCell ⟨r0, 3, none⟩ (.slice s6 s7 s8)).setCell ⟨r1, 0, none⟩ (.bool b1)).setCell ⟨r1, 1, none⟩ (.slice b2 b3 b4)).setCell ⟨r1, 2, none⟩ (.bool b5)).setCell ⟨r1, 3, none⟩ (.slice b6 b7 b8))) := ((GW.out).st4 LE.out.2.2.1 _ _ _ _).st4 LE.out.2.2.2 _ _ _ _
          have GH : Hid (Grow w ((((wc.setCell ⟨r0, 0, none⟩ (.bool s1)).setCell ⟨r0, 1, none⟩ (.slice s2 s3 s4)).setCell ⟨r0, 2, none⟩ (.bool s5)).setCell ⟨r0, 3, none⟩ (.slice s6 s7 s8))) := (GW.out).st4 LE.out.2.2.1 _ _ _ _
          have N0 : BoxN wc r0 := ⟨_, _, _, F0.out, rat_noint _ _ _ _ _ _ _ _⟩
          have N1 : BoxN wc r1 := ⟨_, _, _, F1.out, rat_noint _ _ _ _ _ _ _ _⟩
          have RXF : Hid ((⟨⟨s1, s2, s3, s4⟩, ⟨s5, s6, s7, s8⟩, sq⟩ : RV).rd ((((((((wc.setCell ⟨r0, 0, none⟩ (.bool s1)).setCell ⟨r0, 1, none⟩ (.slice s2 s3 s4)).setCell ⟨r0, 2, none⟩ (.bool s5)).setCell ⟨r0, 3, none⟩ (.slice s6 s7 s8)).setCell ⟨r1, 0, none⟩ (.bool b1)).setCell ⟨r1, 1, none⟩ (.slice b2 b3 b4)).setCell ⟨r1, 2, none⟩ (.bool b5)).setCell ⟨r1, 3, none⟩ (.slice b6 b7 b8)) (fun x => S x ∨ w.heap.size ≤ x) k) := st4_rv (st4_rv RX.out N0 _ _ _ _ (sl_noint _ _ _) (sl_noint _ _ _)) (N1.st4 r0 _ _ _ _ (sl_noint _ _ _) (sl_noint _ _ _)) _ _ _ _ (sl_noint _ _ _) (sl_noint _ _ _)
          have RYF : Hid ((⟨⟨b1, b2, b3, b4⟩, ⟨b5, b6, b7, b8⟩, bq⟩ : RV).rd ((((((((wc.setCell ⟨r0, 0, none⟩ (.bool s1)).setCell ⟨r0, 1, none⟩ (.slice s2 s3 s4)).setCell ⟨r0, 2, none⟩ (.bool s5)).setCell ⟨r0, 3, none⟩ (.slice s6 s7 s8)).setCell ⟨r1, 0, none⟩ (.bool b1)).setCell ⟨r1, 1, none⟩ (.slice b2 b3 b4)).setCell ⟨r1, 2, none⟩ (.bool b5)).setCell ⟨r1, 3, none⟩ (.slice b6 b7 b8)) (fun x => S x ∨ w.heap.size ≤ x) k) := st4_rv (st4_rv RY.out N0 _ _ _ _ (sl_noint _ _ _) (sl_noint _ _ _)) (N1.st4 r0 _ _ _ _ (sl_noint _ _ _) (sl_noint _ _ _)) _ _ _ _ (sl_noint _ _ _) (sl_noint _ _ _)
          clear F1c N0 N1 R0L R1L
          apply lext_turn; exact rfl; exact rfl; exact rfl; intro K hK; go_simp; skip
          refine hK.out _ _ ⟨GH.out, fun i hi => Or.elim hi (fun e => by rw [e]; exact (st4_other NN.out.2.2.2.2.1.symm _ _ _ _).trans (FE.out _ (.inl rfl))) (fun e => by rw [e]; exact (st4_other NN.out.2.2.2.2.2.1.symm _ _ _ _).trans (FE.out _ (.inr rfl)))⟩ ?_
          clear hK
          try simp only [Act.put, List.setIfInBounds_toArray, List.set_cons_zero, List.set_cons_succ]
          apply lext_turn; exact rfl; exact rfl; exact rfl; intro K hK; go_simp; skip
          refine hK.out _ _ ⟨GF.out, fun i hi => Or.elim hi (fun e => by rw [e]; exact (st4_other NN.out.2.2.2.2.2.2.1.symm _ _ _ _).trans ((st4_other NN.out.2.2.2.2.1.symm _ _ _ _).trans (FE.out _ (.inl rfl)))) (fun e => by rw [e]; exact (st4_other NN.out.2.2.2.2.2.2.2.symm _ _ _ _).trans ((st4_other NN.out.2.2.2.2.2.1.symm _ _ _ _).trans (FE.out _ (.inr rfl))))⟩ ?_
          clear hK
          try simp only [Act.put, List.setIfInBounds_toArray, List.set_cons_zero, List.set_cons_succ]
          refine lext_nil ?_
          simp only [List.drop_succ_cons, List.drop_zero]
          go_wp2
          exact bodyPost_ret (v := .tuple #[.agg #[.bool s1, .slice s2 s3 s4, .bool s5, .slice s6 s7 s8], .agg #[.bool b1, .slice b2 b3 b4, .bool b5, .slice b6 b7 b8], .bool (decide (m3 ≤ 0))]) (by simp [results, Try.f44, go_sem, y0, y1, y2, y3, x0, x1, x2, x3]) rfl (HR.out (⟨⟨s1, s2, s3, s4⟩, ⟨s5, s6, s7, s8⟩, sq⟩ : RV) (⟨⟨b1, b2, b3, b4⟩, ⟨b5, b6, b7, b8⟩, bq⟩ : RV) _ _ GF.out rfl RXF.out RYF.out)
      | false =>
        go_upto_region 9 with fail
        clear hc1
        generalize w6 = w7 at *
        have y0 := cell_of_row _ (bt) 0 _ _ (0, 0) FT.out
        have y1 := cell_of_row _ (bt) 1 _ _ (0, 0) FT.out
        have y2 := cell_of_row _ (bt) 2 _ _ (0, 0) FT.out
        have y3 := cell_of_row _ (bt) 3 _ _ (0, 0) FT.out
        have x0 := cell_of_row _ (bb) 0 _ _ (0, 0) FB.out
        have x1 := cell_of_row _ (bb) 1 _ _ (0, 0) FB.out
        have x2 := cell_of_row _ (bb) 2 _ _ (0, 0) FB.out
        have x3 := cell_of_row _ (bb) 3 _ _ (0, 0) FB.out
        go_wp2_with fail
        go_at_call 29
        refine O2.out _ _ RTT.out RB.out _ ?_
        intro w8 hg8
        clear y0 y1 y2 y3 x0 x1 x2 x3 O2
        have RTT := Lib.hid (RTT.out.gr hg8)
        have RB := Lib.hid (RB.out.gr hg8)
        have RA := Lib.hid (RA.out.gr hg8)
        have FT := Lib.hid (grow_blk hg8 FT.out)
        have FA := Lib.hid (grow_blk hg8 FA.out)
        have FB := Lib.hid (grow_blk hg8 FB.out)
        have F0 := Lib.hid (grow_blk hg8 F0.out)
        have F1 := Lib.hid (grow_blk hg8 F1.out)
        have GW := Lib.hid (GW.out.tr hg8)
        clear hg8
        cases c2 with
        | true =>
          have y0 := cell_of_row _ (bt) 0 _ _ (0, 0) FT.out
          have y1 := cell_of_row _ (bt) 1 _ _ (0, 0) FT.out
          have y2 := cell_of_row _ (bt) 2 _ _ (0, 0) FT.out
          have y3 := cell_of_row _ (bt) 3 _ _ (0, 0) FT.out
          have ub0 := FB.out
          have uz0 := cell_of_row _ (bb) 0 _ _ (0, 0) ub0
          have ug0 := frozen_of_row _ (bb) 0 _ _ ub0
          have ub1 := blk_set ub0 0 (.bool t1)
          have uz1 := cell_of_row _ (bb) 1 _ _ (0, 0) ub1
          have ug1 := frozen_of_row _ (bb) 1 _ _ ub1
          have ub2 := blk_set ub1 1 (.slice t2 t3 t4)
          have uz2 := cell_of_row _ (bb) 2 _ _ (0, 0) ub2
          have ug2 := frozen_of_row _ (bb) 2 _ _ ub2
          have ub3 := blk_set ub2 2 (.bool t5)
          have uz3 := cell_of_row _ (bb) 3 _ _ (0, 0) ub3
          have ug3 := frozen_of_row _ (bb) 3 _ _ ub3
          have ub4 := blk_set ub3 3 (.slice t6 t7 t8)
          simp only [List.setIfInBounds_toArray, List.set_cons_zero, List.set_cons_succ] at uz0 uz1 uz2 uz3
          have uL := Lib.hid ub4
          clear ub0 ub1 ub2 ub3 ub4
          have NBB : BoxN w8 bb := ⟨_, _, _, FB.out, rat_noint _ _ _ _ _ _ _ _⟩
          have RA : Hid ((⟨⟨a1, a2, a3, a4⟩, ⟨a5, a6, a7, a8⟩, aq⟩ : RV).rd ((((w8.setCell ⟨bb, 0, none⟩ (.bool t1)).setCell ⟨bb, 1, none⟩ (.slice t2 t3 t4)).setCell ⟨bb, 2, none⟩ (.bool t5)).setCell ⟨bb, 3, none⟩ (.slice t6 t7 t8)) (fun x => S x ∨ w.heap.size ≤ x) k) := st4_rv RA.out NBB _ _ _ _ (sl_noint _ _ _) (sl_noint _ _ _)
          have RTT : Hid ((⟨⟨t1, t2, t3, t4⟩, ⟨t5, t6, t7, t8⟩, tq⟩ : RV).rd ((((w8.setCell ⟨bb, 0, none⟩ (.bool t1)).setCell ⟨bb, 1, none⟩ (.slice t2 t3 t4)).setCell ⟨bb, 2, none⟩ (.bool t5)).setCell ⟨bb, 3, none⟩ (.slice t6 t7 t8)) (fun x => S x ∨ w.heap.size ≤ x) k) := st4_rv RTT.out NBB _ _ _ _ (sl_noint _ _ _) (sl_noint _ _ _)
          have FA : Hid (((((w8.setCell ⟨bb, 0, none⟩ (.bool t1)).setCell ⟨bb, 1, none⟩ (.slice t2 t3 t4)).setCell ⟨bb, 2, none⟩ (.bool t5)).setCell ⟨bb, 3, none⟩ (.slice t6 t7 t8)).heap[ba]? = some (.cells #[.bool a1, .slice a2 a3 a4, .bool a5, .slice a6 a7 a8] 35 (0, 0))) := (st4_other NN.out.1 _ _ _ _).trans FA.out
          have F0 : Hid (((((w8.setCell ⟨bb, 0, none⟩ (.bool t1)).setCell ⟨bb, 1, none⟩ (.slice t2 t3 t4)).setCell ⟨bb, 2, none⟩ (.bool t5)).setCell ⟨bb, 3, none⟩ (.slice t6 t7 t8)).heap[r0]? = some (.cells #[.bool false, .slice none 0 0, .bool false, .slice none 0 0] 35 (0, 0))) := (st4_other NN.out.2.2.2.2.2.1 _ _ _ _).trans F0.out
          have F1 : Hid (((((w8.setCell ⟨bb, 0, none⟩ (.bool t1)).setCell ⟨bb, 1, none⟩ (.slice t2 t3 t4)).setCell ⟨bb, 2, none⟩ (.bool t5)).setCell ⟨bb, 3, none⟩ (.slice t6 t7 t8)).heap[r1]? = some (.cells #[.bool false, .slice none 0 0, .bool false, .slice none 0 0] 35 (0, 0))) := (st4_other NN.out.2.2.2.2.2.2.2 _ _ _ _).trans F1.out
          have FB : Hid (((((w8.setCell ⟨bb, 0, none⟩ (.bool t1)).setCell ⟨bb, 1, none⟩ (.slice t2 t3 t4)).setCell ⟨bb, 2, none⟩ (.bool t5)).setCell ⟨bb, 3, none⟩ (.slice t6 t7 t8)).heap[bb]? = some (.cells #[.bool t1, .slice t2 t3 t4, .bool t5, .slice t6 t7 t8] 35 (0, 0))) := uL.out
          have GW : Hid (Grow w ((((w8.setCell ⟨bb, 0, none⟩ (.bool t1)).setCell ⟨bb, 1, none⟩ (.slice t2 t3 t4)).setCell ⟨bb, 2, none⟩ (.bool t5)).setCell ⟨bb, 3, none⟩ (.slice t6 t7 t8))) := GW.out.st4 LE.out.2.1 _ _ _ _
          clear NBB uL
          go_upto_region 11 with fail
          clear y0 y1 y2 y3 hc2 uz0 ug0 uz1 ug1 uz2 ug2 uz3 ug3
          generalize ((((w8.setCell ⟨bb, 0, none⟩ (.bool t1)).setCell ⟨bb, 1, none⟩ (.slice t2 t3 t4)).setCell ⟨bb, 2, none⟩ (.bool t5)).setCell ⟨bb, 3, none⟩ (.slice t6 t7 t8)) = w9 at *
          have RX := Lib.hid RA.out
          have RY := Lib.hid RTT.out
          have EV : Hid (slabQ aq bq p q lo hi = (aq, tq, decide (cmpR aq tq ≤ 0))) := by
            show _ = _
            unfold slabQ
            rw [if_neg HPQ2.out, HV.out.1, HV.out.2, ← QS.out, ← QT.out]
            simp only [E1.out, E2.out, if_true, Bool.false_eq_true, if_false, cmpR_le]
          rw [EV.out] at HR
          have O3 := Lib.hid fun W T (h1 : (⟨⟨a1, a2, a3, a4⟩, ⟨a5, a6, a7, a8⟩, aq⟩ : RV).rd W T k) (h2 : (⟨⟨t1, t2, t3, t4⟩, ⟨t5, t6, t7, t8⟩, tq⟩ : RV).rd W T k) (R : Ending → World → Prop) hR => order_q _ _ k k T T W h1 h2 HK.out.2 HK.out.2 (R := R) hR
          dsimp only at O3
          generalize cmpR aq tq = m3 at *
          unfold RV.cells at O3
          dsimp only at O3
          clear EV E1 E2 QS QT HV
          have HG := Lib.hid ((Grow.refl w9).dr)
          have RX := Lib.hid (RX.out.gr HG.out)
          have RY := Lib.hid (RY.out.gr HG.out)
          have FA := Lib.hid (grow_blk HG.out FA.out)
          have FB := Lib.hid (grow_blk HG.out FB.out)
          have F0 := Lib.hid (grow_blk HG.out F0.out)
          have F1 := Lib.hid (grow_blk HG.out F1.out)
          have GW := Lib.hid (GW.out.tr HG.out)
          clear HG
          refine wp_region_lexT (fun W => Grow w W ∧ (∀ i, i = ba ∨ i = bb → W.heap[i]? = w9.drew.heap[i]?)) (⟨GW.out, fun _ _ => rfl⟩) 8 [0, 1, 2, 3, 4, 5, 6, 7] (by kernel_rfl) (by kernel_rfl) (by intro c a d v w h; cases d <;> exact h) ?_
          iterate 4 (apply lext_take; exact rfl; exact rfl; (intro W hW; have fa := (hW.2 ba (.inl rfl)).trans FA.out; have fb := (hW.2 bb (.inr rfl)).trans FB.out; have z0 := cell_of_row _ ba 0 _ _ (0, 0) fa; have y0 := cell_of_row _ bb 0 _ _ (0, 0) fb; have z1 := cell_of_row _ ba 1 _ _ (0, 0) fa; have y1 := cell_of_row _ bb 1 _ _ (0, 0) fb; have z2 := cell_of_row _ ba 2 _ _ (0, 0) fa; have y2 := cell_of_row _ bb 2 _ _ (0, 0) fb; have z3 := cell_of_row _ ba 3 _ _ (0, 0) fa; have y3 := cell_of_row _ bb 3 _ _ (0, 0) fb; clear fa fb; (try clear hW); go_simp; with_reducible rfl); try simp only [Act.put, List.setIfInBounds_toArray, List.set_cons_zero, List.set_cons_succ])
          generalize w9.drew = wb at *
          apply lext_turn; exact rfl; exact rfl; exact rfl; intro K hK; go_simp; go_at_call 29; refine O3.out _ _ RX.out RY.out _ ?_; intro wc hgc
          have FE : Hid (∀ i, i = ba ∨ i = bb → wc.heap[i]? = wb.heap[i]?) := fun i hi => Or.elim hi (fun e => by rw [e]; exact hgc.block _ (lt_of_block FA.out)) (fun e => by rw [e]; exact hgc.block _ (lt_of_block FB.out))
          have RX := Lib.hid (RX.out.gr hgc)
          have RY := Lib.hid (RY.out.gr hgc)
          have F0 := Lib.hid (grow_blk hgc F0.out)
          have F1 := Lib.hid (grow_blk hgc F1.out)
          have GW := Lib.hid (GW.out.tr hgc)
          refine hK.out _ _ ⟨GW.out, FE.out⟩ ?_
          clear hK hgc O3
          try simp only [Act.put, List.setIfInBounds_toArray, List.set_cons_zero, List.set_cons_succ]
          iterate 1 (apply lext_take; exact rfl; exact rfl; (intro W hW; (try clear hW); go_simp; with_reducible rfl); try simp only [Act.put, List.setIfInBounds_toArray, List.set_cons_zero, List.set_cons_succ])
          have ub0 := F0.out
          have uz0 := cell_of_row _ (r0) 0 _ _ (0, 0) ub0
          have ug0 := frozen_of_row _ (r0) 0 _ _ ub0
          have ub1 := blk_set ub0 0 (.bool a1)
          have uz1 := cell_of_row _ (r0) 1 _ _ (0, 0) ub1
          have ug1 := frozen_of_row _ (r0) 1 _ _ ub1
          have ub2 := blk_set ub1 1 (.slice a2 a3 a4)
          have uz2 := cell_of_row _ (r0) 2 _ _ (0, 0) ub2
          have ug2 := frozen_of_row _ (r0) 2 _ _ ub2
          have ub3 := blk_set ub2 2 (.bool a5)
          have uz3 := cell_of_row _ (r0) 3 _ _ (0, 0) ub3
          have ug3 := frozen_of_row _ (r0) 3 _ _ ub3
          have ub4 := blk_set ub3 3 (.slice a6 a7 a8)
          simp only [List.setIfInBounds_toArray, List.set_cons_zero, List.set_cons_succ] at uz0 uz1 uz2 uz3
          have uL := Lib.hid ub4
          clear ub0 ub1 ub2 ub3 ub4
          have F1c := (st4_other (W := wc) (b := r0) (c := r1) NN.out.2.2.2.1 (.bool a1) (.slice a2 a3 a4) (.bool a5) (.slice a6 a7 a8)).trans F1.out
          unfold st4 at F1c
          have vb0 := F1c
          have vz0 := cell_of_row _ (r1) 0 _ _ (0, 0) vb0
          have vg0 := frozen_of_row _ (r1) 0 _ _ vb0
          have vb1 := blk_set vb0 0 (.bool t1)
          have vz1 := cell_of_row _ (r1) 1 _ _ (0, 0) vb1
          have vg1 := frozen_of_row _ (r1) 1 _ _ vb1
          have vb2 := blk_set vb1 1 (.slice t2 t3 t4)
          have vz2 := cell_of_row _ (r1) 2 _ _ (0, 0) vb2
          have vg2 := frozen_of_row _ (r1) 2 _ _ vb2
          have vb3 := blk_set vb2 2 (.bool t5)
          have vz3 := cell_of_row _ (r1) 3 _ _ (0, 0) vb3
          have vg3 := frozen_of_row _ (r1) 3 _ _ vb3
          have vb4 := blk_set vb3 3 (.slice t6 t7 t8)
          simp only [List.setIfInBounds_toArray, List.set_cons_zero, List.set_cons_succ] at vz0 vz1 vz2 vz3
          have vL := Lib.hid vb4
          clear vb0 vb1 vb2 vb3 vb4
          have R0L : ((((((((wc.setCell ⟨r0, 0, none⟩ (.bool a1)).setCell ⟨r0, 1, none⟩ (.slice a2 a3 a4)).setCell ⟨r0, 2, none⟩ (.bool a5)).setCell ⟨r0, 3, none⟩ (.slice a6 a7 a8)).setCell ⟨r1, 0, none⟩ (.bool t1)).setCell ⟨r1, 1, none⟩ (.slice t2 t3 t4)).setCell ⟨r1, 2, none⟩ (.bool t5)).setCell ⟨r1, 3, none⟩ (.slice t6 t7 t8)).heap[r0]? = some (.cells #[.bool a1, .slice a2 a3 a4, .bool a5, .slice a6 a7 a8] 35 (0, 0)) := (st4_other (W := ((((wc.setCell ⟨r0, 0, none⟩ (.bool a1)).setCell ⟨r0, 1, none⟩ (.slice a2 a3 a4)).setCell ⟨r0, 2, none⟩ (.bool a5)).setCell ⟨r0, 3, none⟩ (.slice a6 a7 a8))) (b := r1) (c := r0) NN.out.2.2.1 (.bool t1) (.slice t2 t3 t4) (.bool t5) (.slice t6 t7 t8)).trans uL.out
          have R1L : ((((((((wc.setCell ⟨r0, 0, none⟩ (.bool a1)).setCell ⟨r0, 1, none⟩ (.slice a2 a3 a4)).setCell ⟨r0, 2, none⟩ (.bool a5)).setCell ⟨r0, 3, none⟩ (.slice a6 a7 a8)).setCell ⟨r1, 0, none⟩ (.bool t1)).setCell ⟨r1, 1, none⟩ (.slice t2 t3 t4)).setCell ⟨r1, 2, none⟩ (.bool t5)).setCell ⟨r1, 3, none⟩ (.slice t6 t7 t8)).heap[r1]? = some (.cells #[.bool t1, .slice t2 t3 t4, .bool t5, .slice t6 t7 t8] 35 (0, 0)) := vL.out
          have y0 := cell_of_row _ (r0) 0 _ _ (0, 0) R0L
          have y1 := cell_of_row _ (r0) 1 _ _ (0, 0) R0L
          have y2 := cell_of_row _ (r0) 2 _ _ (0, 0) R0L
          have y3 := cell_of_row _ (r0) 3 _ _ (0, 0) R0L
          have x0 := cell_of_row _ (r1) 0 _ _ (0, 0) R1L
          have x1 := cell_of_row _ (r1) 1 _ _ (0, 0) R1L
          have x2 := cell_of_row _ (r1) 2 _ _ (0, 0) R1L
          have x3 := cell_of_row _ (r1) 3 _ _ (0, 0) R1L
          have GF : Hid (Grow w ((((((((wc.setCell ⟨r0, 0, none⟩ (.bool a1)).setCell ⟨r0, 1, none⟩ (.slice a2 a3 a4)).setCell ⟨r0, 2, none⟩ (.bool a5)).setCell ⟨r0, 3, none⟩ (.slice a6 a7 a8)).setCell ⟨r1, 0, none⟩ (.bool t1)).setCell ⟨r1, 1, none⟩ (.slice t2 t3 t4)).setCell ⟨r1, 2, none⟩ (.bool t5)).setCell ⟨r1, 3, none⟩ (.slice t6 t7 t8))) := ((GW.out).st4 LE.out.2.2.1 _ _ _ _).st4 LE.out.2.2.2 _ _ _ _
          have GH : Hid (Grow w ((((wc.setCell ⟨r0, 0, none⟩ (.bool a1)).setCell ⟨r0, 1, none⟩ (.slice a2 a3 a4)).setCell ⟨r0, 2, none⟩ (.bool a5)).setCell ⟨r0, 3, none⟩ (.slice a6 a7 a8))) := (GW.out).st4 LE.out.2.2.1 _ _ _ _
          have N0 : BoxN wc r0 := ⟨_, _, _, F0.out, rat_noint _ _ _ _ _ _ _ _⟩
          have N1 : BoxN wc r1 := ⟨_, _, _, F1.out, rat_noint _ _ _ _ _ _ _ _⟩
          have RXF : Hid ((⟨⟨a1, a2, a3, a4⟩, ⟨a5, a6, a7, a8⟩, aq⟩ : RV).rd ((((((((wc.setCell ⟨r0, 0, none⟩ (.bool a1)).setCell ⟨r0, 1, none⟩ (.slice a2 a3 a4)).setCell ⟨r0, 2, none⟩ (.bool a5)).setCell ⟨r0, 3, none⟩ (.slice a6 a7 a8)).setCell ⟨r1, 0, none⟩ (.bool t1)).setCell ⟨r1, 1, none⟩ (.slice t2 t3 t4)).setCell ⟨r1, 2, none⟩ (.bool t5)).setCell ⟨r1, 3, none⟩ (.slice t6 t7 t8)) (fun x => S x ∨ w.heap.size ≤ x) k) := st4_rv (st4_rv RX.out N0 _ _ _ _ (sl_noint _ _ _) (sl_noint _ _ _)) (N1.st4 r0 _ _ _ _ (sl_noint _ _ _) (sl_noint _ _ _)) _ _ _ _ (sl_noint _ _ _) (sl_noint _ _ _)
          have RYF : Hid ((⟨⟨t1, t2, t3, t4⟩, ⟨t5, t6, t7, t8⟩, tq⟩ : RV).rd ((((((((wc.setCell ⟨r0, 0, none⟩ (.bool a1)).setCell ⟨r0, 1, none⟩ (.slice a2 a3 a4)).setCell ⟨r0, 2, none⟩ (.bool a5)).setCell ⟨r0, 3, none⟩ (.slice a6 a7 a8)).setCell ⟨r1, 0, none⟩ (.bool t1)).setCell ⟨r1, 1, none⟩ (.slice t2 t3 t4)).setCell ⟨r1, 2, none⟩ (.bool t5)).setCell ⟨r1, 3, none⟩ (.slice t6 t7 t8)) (fun x => S x ∨ w.heap.size ≤ x) k) := st4_rv (st4_rv RY.out N0 _ _ _ _ (sl_noint _ _ _) (sl_noint _ _ _)) (N1.st4 r0 _ _ _ _ (sl_noint _ _ _) (sl_noint _ _ _)) _ _ _ _ (sl_noint _ _ _) (sl_noint _ _ _)
          clear F1c N0 N1 R0L R1L
          apply lext_turn; exact rfl; exact rfl; exact rfl; intro K hK; go_simp; skip
          refine hK.out _ _ ⟨GH.out, fun i hi => Or.elim hi (fun e => by rw [e]; exact (st4_other NN.out.2.2.2.2.1.symm _ _ _ _).trans (FE.out _ (.inl rfl))) (fun e => by rw [e]; exact (st4_other NN.out.2.2.2.2.2.1.symm _ _ _ _).trans (FE.out _ (.inr rfl)))⟩ ?_
          clear hK
          try simp only [Act.put, List.setIfInBounds_toArray, List.set_cons_zero, List.set_cons_succ]
          apply lext_turn; exact rfl; exact rfl; exact rfl; intro K hK; go_simp; skip
          refine hK.out _ _ ⟨GF.out, fun i hi => Or.elim hi (fun e => by rw [e]; exact (st4_other NN.out.2.2.2.2.2.2.1.symm _ _ _ _).trans ((st4_other NN.out.2.2.2.2.1.symm _ _ _ _).trans (FE.out _ (.inl rfl)))) (fun e => by rw [e]; exact (st4_other NN.out.2.2.2.2.2.2.2.symm _ _ _ _).trans ((st4_other NN.out.2.2.2.2.2.1.symm _ _ _ _).trans (FE.out _ (.inr rfl))))⟩ ?_
          clear hK
          try simp only [Act.put, List.setIfInBounds_toArray, List.set_cons_zero, List.set_cons_succ]
          refine lext_nil ?_
          simp only [List.drop_succ_cons, List.drop_zero]
          go_wp2
          exact bodyPost_ret (v := .tuple #[.agg #[.bool a1, .slice a2 a3 a4, .bool a5, .slice a6 a7 a8], .agg #[.bool t1, .slice t2 t3 t4, .bool t5, .slice t6 t7 t8], .bool (decide (m3 ≤ 0))]) (by simp [results, Try.f44, go_sem, y0, y1, y2, y3, x0, x1, x2, x3]) rfl (HR.out (⟨⟨a1, a2, a3, a4⟩, ⟨a5, a6, a7, a8⟩, aq⟩ : RV) (⟨⟨t1, t2, t3, t4⟩, ⟨t5, t6, t7, t8⟩, tq⟩ : RV) _ _ GF.out rfl RXF.out RYF.out)
        | false =>
          go_upto_region 11 with fail
          clear hc2
          generalize w8 = w9 at *
          have RX := Lib.hid RA.out
          have RY := Lib.hid RB.out
          have EV : Hid (slabQ aq bq p q lo hi = (aq, bq, decide (cmpR aq bq ≤ 0))) := by
            show _ = _
            unfold slabQ
            rw [if_neg HPQ2.out, HV.out.1, HV.out.2, ← QS.out, ← QT.out]
            simp only [E1.out, E2.out, Bool.false_eq_true, if_false, cmpR_le]
          rw [EV.out] at HR
          have O3 := Lib.hid fun W T (h1 : (⟨⟨a1, a2, a3, a4⟩, ⟨a5, a6, a7, a8⟩, aq⟩ : RV).rd W T k) (h2 : (⟨⟨b1, b2, b3, b4⟩, ⟨b5, b6, b7, b8⟩, bq⟩ : RV).rd W T k) (R : Ending → World → Prop) hR => order_q _ _ k k T T W h1 h2 HK.out.2 HK.out.2 (R := R) hR
          dsimp only at O3
          generalize cmpR aq bq = m3 at *
          unfold RV.cells at O3
          dsimp only at O3
          clear EV E1 E2 QS QT HV
          have HG := Lib.hid ((Grow.refl w9).dr)
          have RX := Lib.hid (RX.out.gr HG.out)
          have RY := Lib.hid (RY.out.gr HG.out)
          have FA := Lib.hid (grow_blk HG.out FA.out)
          have FB := Lib.hid (grow_blk HG.out FB.out)
          have F0 := Lib.hid (grow_blk HG.out F0.out)
          have F1 := Lib.hid (grow_blk HG.out F1.out)
          have GW := Lib.hid (GW.out.tr HG.out)
          clear HG
          refine wp_region_lexT (fun W => Grow w W ∧ (∀ i, i = ba ∨ i = bb → W.heap[i]? = w9.drew.heap[i]?)) (⟨GW.out, fun _ _ => rfl⟩) 8 [0, 1, 2, 3, 4, 5, 6, 7] (by kernel_rfl) (by kernel_rfl) (by intro c a d v w h; cases d <;> exact h) ?_
          iterate 4 (apply lext_take; exact rfl; exact rfl; (intro W hW; have fa := (hW.2 ba (.inl rfl)).trans FA.out; have fb := (hW.2 bb (.inr rfl)).trans FB.out; have z0 := cell_of_row _ ba 0 _ _ (0, 0) fa; have y0 := cell_of_row _ bb 0 _ _ (0, 0) fb; have z1 := cell_of_row _ ba 1 _ _ (0, 0) fa; have y1 := cell_of_row _ bb 1 _ _ (0, 0) fb; have z2 := cell_of_row _ ba 2 _ _ (0, 0) fa; have y2 := cell_of_row _ bb 2 _ _ (0, 0) fb; have z3 := cell_of_row _ ba 3 _ _ (0, 0) fa; have y3 := cell_of_row _ bb 3 _ _ (0, 0) fb; clear fa fb; (try clear hW); go_simp; with_reducible rfl); try simp only [Act.put, List.setIfInBounds_toArray, List.set_cons_zero, List.set_cons_succ])
          generalize w9.drew = wb at *
          apply lext_turn; exact rfl; exact rfl; exact rfl; intro K hK; go_simp; go_at_call 29; refine O3.out _ _ RX.out RY.out _ ?_; intro wc hgc
          have FE : Hid (∀ i, i = ba ∨ i = bb → wc.heap[i]? = wb.heap[i]?) := fun i hi => Or.elim hi (fun e => by rw [e]; exact hgc.block _ (lt_of_block FA.out)) (fun e => by rw [e]; exact hgc.block _ (lt_of_block FB.out))
          have RX := Lib.hid (RX.out.gr hgc)
          have RY := Lib.hid (RY.out.gr hgc)
          have F0 := Lib.hid (grow_blk hgc F0.out)
          have F1 := Lib.hid (grow_blk hgc F1.out)
          have GW := Lib.hid (GW.out.tr hgc)
          refine hK.out _ _ ⟨GW.out, FE.out⟩ ?_
          clear hK hgc O3
          try simp only [Act.put, List.setIfInBounds_toArray, List.set_cons_zero, List.set_cons_succ]
          iterate 1 (apply lext_take; exact rfl; exact rfl; (intro W hW; (try clear hW); go_simp; with_reducible rfl); try simp only [Act.put, List.setIfInBounds_toArray, List.set_cons_zero, List.set_cons_succ])
          have ub0 := F0.out
          have uz0 := cell_of_row _ (r0) 0 _ _ (0, 0) ub0
          have ug0 := frozen_of_row _ (r0) 0 _ _ ub0
          have ub1 := blk_set ub0 0 (.bool a1)
          have uz1 := cell_of_row _ (r0) 1 _ _ (0, 0) ub1
          have ug1 := frozen_of_row _ (r0) 1 _ _ ub1
          have ub2 := blk_set ub1 1 (.slice a2 a3 a4)
          have uz2 := cell_of_row _ (r0) 2 _ _ (0, 0) ub2
          have ug2 := frozen_of_row _ (r0) 2 _ _ ub2
          have ub3 := blk_set ub2 2 (.bool a5)
          have uz3 := cell_of_row _ (r0) 3 _ _ (0, 0) ub3
          have ug3 := frozen_of_row _ (r0) 3 _ _ ub3
          have ub4 := blk_set ub3 3 (.slice a6 a7 a8)
          simp only [List.setIfInBounds_toArray, List.set_cons_zero, List.set_cons_succ] at uz0 uz1 uz2 uz3
          have uL := Lib.hid ub4
          clear ub0 ub1 ub2 ub3 ub4
          have F1c := (st4_other (W := wc) (b := r0) (c := r1) NN.out.2.2.2.1 (.bool a1) (.slice a2 a3 a4) (.bool a5) (.slice a6 a7 a8)).trans F1.out
          unfold st4 at F1c
          have vb0 := F1c
          have vz0 := cell_of_row _ (r1) 0 _ _ (0, 0) vb0
          have vg0 := frozen_of_row _ (r1) 0 _ _ vb0
          have vb1 := blk_set vb0 0 (.bool b1)
          have vz1 := cell_of_row _ (r1) 1 _ _ (0, 0) vb1
          have vg1 := frozen_of_row _ (r1) 1 _ _ vb1
          have vb2 := blk_set vb1 1 (.slice b2 b3 b4)
          have vz2 := cell_of_row _ (r1) 2 _ _ (0, 0) vb2
          have vg2 := frozen_of_row _ (r1) 2 _ _ vb2
          have vb3 := blk_set vb2 2 (.bool b5)
          have vz3 := cell_of_row _ (r1) 3 _ _ (0, 0) vb3
          have vg3 := frozen_of_row _ (r1) 3 _ _ vb3
          have vb4 := blk_set vb3 3 (.slice b6 b7 b8)
          simp only [List.setIfInBounds_toArray, List.set_cons_zero, List.set_cons_succ] at vz0 vz1 vz2 vz3
          have vL := Lib.hid vb4
          clear vb0 vb1 vb2 vb3 vb4
          have R0L : ((((((((wc.setCell ⟨r0, 0, none⟩ (.bool a1)).setCell ⟨r0, 1, none⟩ (.slice a2 a3 a4)).setCell ⟨r0, 2, none⟩ (.bool a5)).setCell ⟨r0, 3, none⟩ (.slice a6 a7 a8)).setCell ⟨r1, 0, none⟩ (.bool b1)).setCell ⟨r1, 1, none⟩ (.slice b2 b3 b4)).setCell ⟨r1, 2, none⟩ (.bool b5)).setCell ⟨r1, 3, none⟩ (.slice b6 b7 b8)).heap[r0]? = some (.cells #[.bool a1, .slice a2 a3 a4, .bool a5, .slice a6 a7 a8] 35 (0, 0)) := (st4_other (W := ((((wc.setCell ⟨r0, 0, none⟩ (.bool a1)).setCell ⟨r0, 1, none⟩ (.slice a2 a3 a4)).setCell ⟨r0, 2, none⟩ (.bool a5)).setCell ⟨r0, 3, none⟩ (.slice a6 a7 a8))) (b := r1) (c := r0) NN.out.2.2.1 (.bool b1) (.slice b2 b3 b4) (.bool b5) (.slice b6 b7 b8)).trans uL.out
          have R1L : ((((((((wc.setCell ⟨r0, 0, none⟩ (.bool a1)).setCell ⟨r0, 1, none⟩ (.slice a2 a3 a4)).setCell ⟨r0, 2, none⟩ (.bool a5)).setCell ⟨r0, 3, none⟩ (.slice a6 a7 a8)).setCell ⟨r1, 0, none⟩ (.bool b1)).setCell ⟨r1, 1, none⟩ (.slice b2 b3 b4)).setCell ⟨r1, 2, none⟩ (.bool b5)).setCell ⟨r1, 3, none⟩ (.slice b6 b7 b8)).heap[r1]? = some (.cells #[.bool b1, .slice b2 b3 b4, .bool b5, .slice b6 b7 b8] 35 (0, 0)) := vL.out
          have y0 := cell_of_row _ (r0) 0 _ _ (0, 0) R0L
          have y1 := cell_of_row _ (r0) 1 _ _ (0, 0) R0L
          have y2 := cell_of_row _ (r0) 2 _ _ (0, 0) R0L
          have y3 := cell_of_row _ (r0) 3 _ _ (0, 0) R0L
          have x0 := cell_of_row _ (r1) 0 _ _ (0, 0) R1L
          have x1 := cell_of_row _ (r1) 1 _ _ (0, 0) R1L
          have x2 := cell_of_row _ (r1) 2 _ _ (0, 0) R1L
          have x3 := cell_of_row _ (r1) 3 _ _ (0, 0) R1L
          have GF : Hid (Grow w ((((((((wc.setCell ⟨r0, 0, none⟩ (.bool a1)).setCell ⟨r0, 1, none⟩ (.slice a2 a3 a4)).setCell ⟨r0, 2, none⟩ (.bool a5)).setCell ⟨r0, 3, none⟩ (.slice a6 a7 a8)).setCell ⟨r1, 0, none⟩ (.bool b1)).setCell ⟨r1, 1, none⟩ (.slice b2 b3 b4)).setCell ⟨r1, 2, none⟩ (.bool b5)).setCell ⟨r1, 3, none⟩ (.slice b6 b7 b8))) := ((GW.out).st4 LE.out.2.2.1 _ _ _ _).st4 LE.out.2.2.2 _ _ _ _
          have GH : Hid (Grow w ((((wc.setCell ⟨r0, 0, none⟩ (.bool a1)).setCell ⟨r0, 1, none⟩ (.slice a2 a3 a4)).setCell ⟨r0, 2, none⟩ (.bool a5)).setCell ⟨r0, 3, none⟩ (.slice a6 a7 a8))) := (GW.out).st4 LE.out.2.2.1 _ _ _ _
          have N0 : BoxN wc r0 := ⟨_, _, _, F0.out, rat_noint _ _ _ _ _ _ _ _⟩
          have N1 : BoxN wc r1 := ⟨_, _, _, F1.out, rat_noint _ _ _ _ _ _ _ _⟩
          have RXF : Hid ((⟨⟨a1, a2, a3, a4⟩, ⟨a5, a6, a7, a8⟩, aq⟩ : RV).rd ((((((((wc.setCell ⟨r0, 0, none⟩ (.bool a1)).setCell ⟨r0, 1, none⟩ (.slice a2 a3 a4)).setCell ⟨r0, 2, none⟩ (.bool a5)).setCell ⟨r0, 3, none⟩ (.slice a6 a7 a8)).setCell ⟨r1, 0, none⟩ (.bool b1)).setCell ⟨r1, 1, none⟩ (.slice b2 b3 b4)).setCell ⟨r1, 2, none⟩ (.bool b5)).setCell ⟨r1, 3, none⟩ (.slice b6 b7 b8)) (fun x => S x ∨ w.heap.size ≤ x) k) := st4_rv (st4_rv RX.out N0 _ _ _ _ (sl_noint _ _ _) (sl_noint _ _ _)) (N1.st4 r0 _ _ _ _ (sl_noint _ _ _) (sl_noint _ _ _)) _ _ _ _ (sl_noint _ _ _) (sl_noint _ _ _)
          have RYF : Hid ((⟨⟨b1, b2, b3, b4⟩, ⟨b5, b6, b7, b8⟩, bq⟩ : RV).rd ((((((((wc.setCell ⟨r0, 0, none⟩ (.bool a1)).setCell ⟨r0, 1, none⟩ (.slice a2 a3 a4)).setCell ⟨r0, 2, none⟩ (.bool a5)).setCell ⟨r0, 3, none⟩ (.slice a6 a7 a8)).setCell ⟨r1, 0, none⟩ (.bool b1)).setCell ⟨r1, 1, none⟩ (.slice b2 b3 b4)).setCell ⟨r1, 2, none⟩ (.bool b5)).setCell ⟨r1, 3, none⟩ (.slice b6 b7 b8)) (fun x => S x ∨ w.heap.size ≤ x) k) := st4_rv (st4_rv RY.out N0 _ _ _ _ (sl_noint _ _ _) (sl_noint _ _ _)) (N1.st4 r0 _ _ _ _ (sl_noint _ _ _) (sl_noint _ _ _)) _ _ _ _ (sl_noint _ _ _) (sl_noint _ _ _)
          clear F1c N0 N1 R0L R1L
          apply lext_turn; exact rfl; exact rfl; exact rfl; intro K hK; go_simp; skip
          refine hK.out _ _ ⟨GH.out, fun i hi => Or.elim hi (fun e => by rw [e]; exact (st4_other NN.out.2.2.2.2.1.symm _ _ _ _).trans (FE.out _ (.inl rfl))) (fun e => by rw [e]; exact (st4_other NN.out.2.2.2.2.2.1.symm _ _ _ _).trans (FE.out _ (.inr rfl)))⟩ ?_
          clear hK
          try simp only [Act.put, List.setIfInBounds_toArray, List.set_cons_zero, List.set_cons_succ]
          apply lext_turn; exact rfl; exact rfl; exact rfl; intro K hK; go_simp; skip
          refine hK.out _ _ ⟨GF.out, fun i hi => Or.elim hi (fun e => by rw [e]; exact (st4_other NN.out.2.2.2.2.2.2.1.symm _ _ _ _).trans ((st4_other NN.out.2.2.2.2.1.symm _ _ _ _).trans (FE.out _ (.inl rfl)))) (fun e => by rw [e]; exact (st4_other NN.out.2.2.2.2.2.2.2.symm _ _ _ _).trans ((st4_other NN.out.2.2.2.2.2.1.symm _ _ _ _).trans (FE.out _ (.inr rfl))))⟩ ?_
          clear hK
          try simp only [Act.put, List.setIfInBounds_toArray, List.set_cons_zero, List.set_cons_succ]
          refine lext_nil ?_
          simp only [List.drop_succ_cons, List.drop_zero]
          go_wp2
          exact bodyPost_ret (v := .tuple #[.agg #[.bool a1, .slice a2 a3 a4, .bool a5, .slice a6 a7 a8], .agg #[.bool b1, .slice b2 b3 b4, .bool b5, .slice b6 b7 b8], .bool (decide (m3 ≤ 0))]) (by simp [results, Try.f44, go_sem, y0, y1, y2, y3, x0, x1, x2, x3]) rfl (HR.out (⟨⟨a1, a2, a3, a4⟩, ⟨a5, a6, a7, a8⟩, aq⟩ : RV) (⟨⟨b1, b2, b3, b4⟩, ⟨b5, b6, b7, b8⟩, bq⟩ : RV) _ _ GF.out rfl RXF.out RYF.out)
end Go.Proofs.Ytjcgkhcbdbbdkaa
