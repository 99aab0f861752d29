/-
  portolanref23.At.
-/
import Derived.Test.YthgibnmnjoniiaaChecked
import Derived.Test.YthgibnmnjoniiaaOver
import Derived.Test.YthgibnmnjoniiaaNear
import Derived.Test.YthgibnmnjoniiaaFreeB
import Derived.Test.YthgibnmnjoniiaaPts
namespace Go.Proofs.Ythgibnmnjoniiaa
open Go.RowKit Go.Lib B

def atN (p q : Pt) (c : Int) : Int := if 1 * (q.x - p.x) < 0 then -((c - p.x) * (q.y - p.y) * 1) else (c - p.x) * (q.y - p.y) * 1
def atD (p q : Pt) : Int := if 1 * (q.x - p.x) < 0 then -(1 * (q.x - p.x)) else 1 * (q.x - p.x)


theorem NumBox.st4 {W : World} {b b' : Nat} {p : Bool} {A : Option Addr} {n c : Nat} {z : Int} {k : Nat} {S : Nat → Prop} (h : NumBox W b p A n c z k S) (hne : b ≠ b') (hS : ∀ x, S x → x ≠ b') (u0 u1 u2 u3 : Value) : NumBox (st4 W b' u0 u1 u2 u3) b p A n c z k S :=
  ⟨(st4_other hne u0 u1 u2 u3).trans h.blk, h.big.st4 hS u0 u1 u2 u3⟩


set_option maxRecDepth 100000 in
set_option maxHeartbeats 16000000 in
theorem at23_any (p q : Pt) (c : Int) (w : World) (hp : p.ok) (hq : q.ok) (hc : I64 c) {R : Ending → World → Prop}
    (hR : ∀ v w', Grow w w' → RatR w' (fun b => w.heap.size ≤ b) v (p.y * atD p q + atN p q c * 1) (1 * atD p q) 19 13 → R (.returned v) w') :
    Calls Try.prog 59 #[.agg p.cells.toArray, .agg q.cells.toArray, .int .i64 c] w R := by
  unfold atN atD at hR
  have HR := Lib.hid hR
  clear hR
  have IP := Lib.hid fun W (R : Ending → World → Prop) hR => int_any p.x W hp.1 (R := R) hR
  have JP := Lib.hid fun W (R : Ending → World → Prop) hR => int_any p.y W hp.2 (R := R) hR
  have IQ := Lib.hid fun W (R : Ending → World → Prop) hR => int_any q.x W hq.1 (R := R) hR
  have JQ := Lib.hid fun W (R : Ending → World → Prop) hR => int_any q.y W hq.2 (R := R) hR
  have IC := Lib.hid fun W (R : Ending → World → Prop) hR => int_any c W hc (R := R) hR
  have WP := Lib.hid fun W (R : Ending → World → Prop) hR => whole_any p.y W hp.2 (R := R) hR
  obtain ⟨px, py⟩ := p
  obtain ⟨qx, qy⟩ := q
  clear hp hq hc
  unfold Pt.cells
  dsimp only at *
  obtain ⟨wa, hwa⟩ : ∃ wa, wa = ((w.alloc (.cells #[.int .i64 px, .int .i64 py] 24)).alloc (.cells #[.int .i64 qx, .int .i64 qy] 24)).alloc (.cells #[.bool false, .slice none 0 0, .bool false, .slice none 0 0] 86) := ⟨_, rfl⟩
  have K0 : Hid (∀ W, Grow wa W → W.heap[w.heap.size]? = some (.cells #[.int .i64 px, .int .i64 py] 24 (0, 0))) := fun W h => by
    subst hwa
    exact blk_al w _ _ ((((Grow.refl _).al _).al _).tr h)
  have K1 : Hid (∀ W, Grow wa W → W.heap[w.heap.size + 1]? = some (.cells #[.int .i64 qx, .int .i64 qy] 24 (0, 0))) := fun W h => by
    subst hwa
    have := blk_al (w.alloc (.cells #[.int .i64 px, .int .i64 py] 24)) _ _ (((Grow.refl _).al _).tr h)
    rwa [World.size_alloc] at this
  have K2 : Hid (∀ W, Grow wa W → W.heap[w.heap.size + 1 + 1]? = some (.cells #[.bool false, .slice none 0 0, .bool false, .slice none 0 0] 86 (0, 0))) := fun W h => by
    subst hwa
    have := blk_al _ _ _ h
    rwa [World.size_alloc, World.size_alloc] at this
  have GA : Hid (Grow w wa) := by subst hwa; exact (((Grow.refl w).al _).al _).al _
  have GS : Hid (wa.heap.size = w.heap.size + 3) := by
    subst hwa
    show _ = _
    rw [World.size_alloc, World.size_alloc, World.size_alloc]
  go_enter Try.func59, Try.ntmps59
  go_wp2_with fail
  rw [← hwa]
  clear hwa
  refine wp_region_free2 ⟨14, some 7, 66, #[.bool false, .slice none 0 0]⟩ ⟨15, some 8, 66, #[.bool false, .slice none 0 0]⟩ 16 [0, 1, 3, 4, 7, 8, 10, 11, 2, 5, 6, 9, 12, 13] (by kernel_rfl) (by kernel_rfl) (by decide) ?_ ?_ (by intro c a d v w h; cases d <;> exact h) rfl rfl ?_
  · exact ⟨_, rfl, rfl, rfl, fun a W K h => by go_simp; exact h⟩
  · exact ⟨_, rfl, rfl, rfl, fun a W K h => by go_simp; exact h⟩
  iterate 8
    apply fr_take; exact rfl; (simp); (simp); (intro x1 x2; exact rfl)
    · intro x1 x2 W' hW
      have hW := (Grow.refl wa).dr.tr hW
      have z0 := cell_of_row _ w.heap.size 0 _ _ (0, 0) (K0.out _ hW)
      have z1 := cell_of_row _ w.heap.size 1 _ _ (0, 0) (K0.out _ hW)
      have y0 := cell_of_row _ (w.heap.size + 1) 0 _ _ (0, 0) (K1.out _ hW)
      have y1 := cell_of_row _ (w.heap.size + 1) 1 _ _ (0, 0) (K1.out _ hW)
      clear hW
      simp only [FA.put2, Act.put, List.setIfInBounds_toArray, List.set_cons_zero, List.set_cons_succ]
      go_simp
      with_reducible rfl
    simp only [Act.put, List.setIfInBounds_toArray, List.set_cons_zero, List.set_cons_succ]
  apply fr_turn; exact rfl; exact rfl; (simp); (simp); (intro x1 x2; exact rfl)
  intro x1 x2 v1 hW K hK
  simp only [FA.put2, Act.put, List.setIfInBounds_toArray, List.set_cons_zero, List.set_cons_succ]
  go_simp
  go_at_call 42
  refine IQ.out v1 _ ?_
  intro r2 v2 hg2 hr2
  have H2 := Lib.hid ((Grow.refl wa).dr.tr (hW.tr hg2))
  have R2 := Lib.hid hr2
  refine hK.out _ _ hg2 ?_
  clear hK hg2 hr2 hW
  simp only [Act.put, List.setIfInBounds_toArray, List.set_cons_zero, List.set_cons_succ]
  apply fr_turn; exact rfl; exact rfl; (simp); (simp); (intro x1 x2; exact rfl)
  intro x1 x2 v3 hW K hK
  simp only [FA.put2, Act.put, List.setIfInBounds_toArray, List.set_cons_zero, List.set_cons_succ]
  go_simp
  go_at_call 42
  refine IP.out v3 _ ?_
  intro r4 v4 hg4 hr4
  have H4 := Lib.hid (H2.out.tr (hW.tr hg4))
  have R2 := Lib.hid (R2.out.gr (hW.tr hg4))
  have R4 := Lib.hid hr4
  refine hK.out _ _ hg4 ?_
  clear hK hg4 hr4 hW
  simp only [Act.put, List.setIfInBounds_toArray, List.set_cons_zero, List.set_cons_succ]
  apply fr_turn; exact rfl; exact rfl; (simp); (simp); (intro x1 x2; exact rfl)
  intro x1 x2 v5 hW K hK
  simp only [FA.put2, Act.put, List.setIfInBounds_toArray, List.set_cons_zero, List.set_cons_succ]
  go_simp
  go_at_call 46
  refine sub_any qx px 4 4 _ _ _ _ v5 (R2.out.gr hW) (R4.out.gr hW) (by omega) (by omega) ?_
  intro r6 v6 hg6 hr6
  obtain ⟨pn, An, nn, cn, rfl⟩ := hr6.parts
  have H6 := Lib.hid (H4.out.tr (hW.tr hg6))
  have RN := Lib.hid hr6.both
  have L5 := Lib.hid (show wa.heap.size ≤ v5.heap.size from (H4.out.tr hW).size)
  refine hK.out _ _ hg6 ?_
  clear hK hg6 hr6 hW R2 R4
  simp only [Act.put, List.setIfInBounds_toArray, List.set_cons_zero, List.set_cons_succ]
  apply fr_turn; exact rfl; exact rfl; (simp); (simp); (intro x1 x2; exact rfl)
  intro x1 x2 v7 hW K hK
  simp only [FA.put2, Act.put, List.setIfInBounds_toArray, List.set_cons_zero, List.set_cons_succ]
  go_simp
  go_at_call 42
  refine JQ.out v7 _ ?_
  intro r8 v8 hg8 hr8
  have H8 := Lib.hid (H6.out.tr (hW.tr hg8))
  have H86 := Lib.hid (hW.tr hg8)
  have RN := Lib.hid (RN.out.gr (hW.tr hg8))
  have R8 := Lib.hid hr8
  refine hK.out _ _ hg8 ?_
  clear hK hg8 hr8 hW
  simp only [Act.put, List.setIfInBounds_toArray, List.set_cons_zero, List.set_cons_succ]
  apply fr_turn; exact rfl; exact rfl; (simp); (simp); (intro x1 x2; exact rfl)
  intro x1 x2 v9 hW K hK
  simp only [FA.put2, Act.put, List.setIfInBounds_toArray, List.set_cons_zero, List.set_cons_succ]
  go_simp
  go_at_call 42
  refine JP.out v9 _ ?_
  intro r10 v10 hg10 hr10
  have H10 := Lib.hid (H8.out.tr (hW.tr hg10))
  have H8612 := Lib.hid (H86.out.tr (hW.tr hg10))
  have RN := Lib.hid (RN.out.gr (hW.tr hg10))
  have R8 := Lib.hid (R8.out.gr (hW.tr hg10))
  have R10 := Lib.hid hr10
  refine hK.out _ _ hg10 ?_
  clear hK hg10 hr10 hW
  simp only [Act.put, List.setIfInBounds_toArray, List.set_cons_zero, List.set_cons_succ]
  apply fr_turn; exact rfl; exact rfl; (simp); (simp); (intro x1 x2; exact rfl)
  intro x1 x2 v11 hW K hK
  simp only [FA.put2, Act.put, List.setIfInBounds_toArray, List.set_cons_zero, List.set_cons_succ]
  go_simp
  go_at_call 46
  refine sub_any qy py 4 4 _ _ _ _ v11 (R8.out.gr hW) (R10.out.gr hW) (by omega) (by omega) ?_
  intro r12 v12 hg12 hr12
  obtain ⟨pd, Ad, nd, cd, rfl⟩ := hr12.parts
  have H12 := Lib.hid (H10.out.tr (hW.tr hg12))
  have RN := Lib.hid (RN.out.gr (hW.tr hg12))
  have RD := Lib.hid hr12.both
  have L11 := Lib.hid (show wa.heap.size ≤ v11.heap.size from (H10.out.tr hW).size)
  have SZ := Lib.hid (show v6.heap.size ≤ v12.heap.size from (H8612.out.tr (hW.tr hg12)).size)
  refine hK.out _ _ hg12 ?_
  clear hK hg12 hr12 hW R8 R10
  simp only [Act.put, List.setIfInBounds_toArray, List.set_cons_zero, List.set_cons_succ]
  refine fr_nil ?_
  intro b1 b2 V hV hne hb1 hb2
  obtain ⟨hb11, hb12, hb13⟩ := hb1
  obtain ⟨hb21, hb22, hb23⟩ := hb2
  have i1 := hb13 (v5.heap.size, v6.heap.size) (by simp)
  have i2 := hb23 (v5.heap.size, v6.heap.size) (by simp)
  have i3 := hb13 (v11.heap.size, v12.heap.size) (by simp)
  have i4 := hb23 (v11.heap.size, v12.heap.size) (by simp)
  dsimp only at i1 i2 i3 i4
  have gs := GS.out
  have l5 := L5.out
  have l11 := L11.out
  have NN : Hid (∀ b, v5.heap.size ≤ b ∧ b < v6.heap.size → b ≠ b1 ∧ b ≠ b2) := fun b hb => ⟨by omega, by omega⟩
  have ND : Hid (∀ b, v11.heap.size ≤ b ∧ b < v12.heap.size → b ≠ b1 ∧ b ≠ b2) := fun b hb => ⟨by omega, by omega⟩
  have HV := Lib.hid (H12.out.tr hV)
  have RN := Lib.hid (RN.out.gr hV)
  have RD := Lib.hid (RD.out.gr hV)
  have F1 := hb11
  have F2 := (st2_other (W := V) (c := b2) (b := b1) hne.symm (.bool pn) (.slice An nn cn)).trans hb21
  obtain ⟨V2, hV2⟩ : ∃ V2, V2 = st2 (st2 V b1 (.bool pn) (.slice An nn cn)) b2 (.bool pd) (.slice Ad nd cd) := ⟨_, rfl⟩
  have GV : Hid (Grow wa V2) := by
    subst hV2
    exact (HV.out.st2 (by omega) _ _).st2 (by omega) _ _
  have Y1 : Hid (NumBox V2 b1 pn An nn cn (qx - px) 5 (fun b => v5.heap.size ≤ b ∧ b < v6.heap.size)) := by
    subst hV2
    exact ⟨(st2_other hne _ _).trans (st2_same hb11 _ _), (RN.out.st2 (fun b hb => (NN.out b hb).1) _ _).st2 (fun b hb => (NN.out b hb).2) _ _⟩
  have Y2 : Hid (NumBox V2 b2 pd Ad nd cd (qy - py) 5 (fun b => v11.heap.size ≤ b ∧ b < v12.heap.size)) := by
    subst hV2
    exact ⟨st2_same F2 _ _, (RD.out.st2 (fun b hb => (ND.out b hb).1) _ _).st2 (fun b hb => (ND.out b hb).2) _ _⟩
  have LV : Hid (v6.heap.size ≤ V2.heap.size ∧ b1 < V2.heap.size) := ⟨by
    subst hV2
    show v6.heap.size ≤ _
    have := hV.size
    have h2 := L11.out
    simp only [st2, size_setCell]
    have := SZ.out
    omega, by have := lt_of_block Y1.out.blk; exact this⟩
  simp only [st2] at F2 hV2
  simp only [FA.put2, ptrTo, Act.put, List.setIfInBounds_toArray, List.set_cons_zero, List.set_cons_succ]
  simp only [List.drop_succ_cons, List.drop_zero]
  have c0 := cell_of_row _ b1 0 _ _ (0, 0) F1
  have f0 := frozen_of_row _ b1 0 _ _ F1
  have g1 := blk_set F1 0 (.bool pn)
  have c1 := cell_of_row _ b1 1 _ _ (0, 0) g1
  have f1 := frozen_of_row _ b1 1 _ _ g1
  have d0 := cell_of_row _ b2 0 _ _ (0, 0) F2
  have e0 := frozen_of_row _ b2 0 _ _ F2
  have g2 := blk_set F2 0 (.bool pd)
  have d1 := cell_of_row _ b2 1 _ _ (0, 0) g2
  have e1 := frozen_of_row _ b2 1 _ _ g2
  simp only [List.setIfInBounds_toArray, List.set_cons_zero] at c0 c1 d0 d1
  clear g1 g2 F1 F2 hb11 hb12 hb13 hb21 hb22 hb23 i1 i2 i3 i4 hne hV l5 l11 gs
  go_wp2_with fail
  rw [← hV2]
  clear c0 f0 c1 f1 d0 e0 d1 e1 hV2 HV RN RD H2 H4 H6 H8 H86 H8612 SZ H10 H12 NN ND L11
  refine wp_region_free1 ⟨10, some 9, 86, #[.bool false, .slice none 0 0, .bool false, .slice none 0 0]⟩ 11 [0, 2, 3, 6, 1, 4, 5, 7, 8, 9] (by kernel_rfl) (by kernel_rfl) ?_ (by intro c a d v w h; cases d <;> exact h) rfl ?_
  · exact ⟨_, rfl, rfl, rfl, fun a W K h => by go_simp; exact h⟩
  iterate 4
    apply fr1_take; exact rfl; (simp); (intro x1; exact rfl)
    · intro x1 W' hW
      have hW := (Grow.refl V2).dr.tr hW
      have z0 := cell_of_row _ w.heap.size 0 _ _ (0, 0) (K0.out _ (GV.out.tr hW))
      have z1 := cell_of_row _ w.heap.size 1 _ _ (0, 0) (K0.out _ (GV.out.tr hW))
      have u0 := (Y2.out.gr hW).c0
      have u1 := (Y2.out.gr hW).c1
      clear hW
      simp only [Act.put, List.setIfInBounds_toArray, List.set_cons_zero, List.set_cons_succ]
      go_simp
      with_reducible rfl
    simp only [Act.put, List.setIfInBounds_toArray, List.set_cons_zero, List.set_cons_succ]
  apply fr1_turn; exact rfl; exact rfl; (simp); (intro x1; exact rfl)
  intro x1 k1 hW K hK
  simp only [Act.put, List.setIfInBounds_toArray, List.set_cons_zero, List.set_cons_succ]
  go_simp
  go_at_call 42
  refine IC.out k1 _ ?_
  intro r1 k2 hg2 hr2
  have J2 := Lib.hid ((Grow.refl V2).dr.tr (hW.tr hg2))
  have R1 := Lib.hid hr2
  refine hK.out _ _ hg2 ?_
  clear hK hg2 hr2 hW
  simp only [Act.put, List.setIfInBounds_toArray, List.set_cons_zero, List.set_cons_succ]
  apply fr1_turn; exact rfl; exact rfl; (simp); (intro x1; exact rfl)
  intro x1 k3 hW K hK
  simp only [Act.put, List.setIfInBounds_toArray, List.set_cons_zero, List.set_cons_succ]
  go_simp
  go_at_call 42
  refine IP.out k3 _ ?_
  intro r3 k4 hg4 hr4
  have J4 := Lib.hid (J2.out.tr (hW.tr hg4))
  have R1 := Lib.hid (R1.out.gr (hW.tr hg4))
  have R3 := Lib.hid hr4
  refine hK.out _ _ hg4 ?_
  clear hK hg4 hr4 hW
  simp only [Act.put, List.setIfInBounds_toArray, List.set_cons_zero, List.set_cons_succ]
  apply fr1_turn; exact rfl; exact rfl; (simp); (intro x1; exact rfl)
  intro x1 k5 hW K hK
  simp only [Act.put, List.setIfInBounds_toArray, List.set_cons_zero, List.set_cons_succ]
  go_simp
  go_at_call 46
  refine sub_any c px 4 4 _ _ _ _ k5 (R1.out.gr hW) (R3.out.gr hW) (by omega) (by omega) ?_
  intro r5 k6 hg6 hr6
  have J6 := Lib.hid (J4.out.tr (hW.tr hg6))
  have R5 := Lib.hid hr6
  refine hK.out _ _ hg6 ?_
  clear hK hg6 hr6 hW R1 R3
  simp only [Act.put, List.setIfInBounds_toArray, List.set_cons_zero, List.set_cons_succ]
  apply fr1_turn; exact rfl; exact rfl; (simp); (intro x1; exact rfl)
  intro x1 k7 hW K hK
  simp only [Act.put, List.setIfInBounds_toArray, List.set_cons_zero, List.set_cons_succ]
  go_simp
  go_at_call 41
  refine mul_any (c - px) (qy - py) 5 5 _ _ _ _ k7 (R5.out.gr hW) (Y2.out.big.gr (J6.out.tr hW)) (by omega) (by omega) ?_
  intro r7 k8 hg8 hr8
  obtain ⟨pu, Au, nu, cu, rfl⟩ := hr8.parts
  have J8 := Lib.hid (J6.out.tr (hW.tr hg8))
  have RU := Lib.hid hr8.both
  refine hK.out _ _ hg8 ?_
  clear hK hg8 hr8 hW R5
  simp only [Act.put, List.setIfInBounds_toArray, List.set_cons_zero, List.set_cons_succ]
  apply fr1_turn; exact rfl; exact rfl; (simp); (intro x1; exact rfl)
  intro x1 k9 hW K hK
  simp only [Act.put, List.setIfInBounds_toArray, List.set_cons_zero, List.set_cons_succ]
  go_simp
  go_at_call 47
  refine word_any 1 k9 (by omega) ?_
  intro r9 k10 hg10 hr10
  obtain ⟨pv, Av, nv, cv, rfl⟩ := hr10.parts
  have J10 := Lib.hid (J8.out.tr (hW.tr hg10))
  have RU := Lib.hid (RU.out.gr (hW.tr hg10))
  have RV := Lib.hid hr10.both
  refine hK.out _ _ hg10 ?_
  clear hK hg10 hr10 hW
  simp only [Act.put, List.setIfInBounds_toArray, List.set_cons_zero, List.set_cons_succ]
  apply fr1_take; exact rfl; (simp); (intro x1; exact rfl)
  · intro x1 W' hW
    clear hW
    simp only [Act.put, List.setIfInBounds_toArray, List.set_cons_zero, List.set_cons_succ]
    go_simp
    with_reducible rfl
  simp only [Act.put, List.setIfInBounds_toArray, List.set_cons_zero, List.set_cons_succ]
  refine fr1_nil ?_
  intro b3 U hU hb3
  obtain ⟨hb31, hb32, hb33⟩ := hb3
  have i1 := hb33 (k7.heap.size, k8.heap.size) (by simp)
  have i2 := hb33 (k9.heap.size, k10.heap.size) (by simp)
  dsimp only at i1 i2
  have lv := LV.out
  have gs := GS.out
  have gv := GV.out.size
  have ga : w.heap.size + 3 ≤ wa.heap.size := by omega
  have HU := Lib.hid (J10.out.tr hU)
  have RU := Lib.hid (RU.out.gr hU)
  have RV := Lib.hid (RV.out.gr hU)
  have F3 := hb31
  obtain ⟨U2, hU2⟩ : ∃ U2, U2 = st4 U b3 (.bool pu) (.slice Au nu cu) (.bool pv) (.slice Av nv cv) := ⟨_, rfl⟩
  have GU : Hid (Grow wa U2) := by
    subst hU2
    exact (GV.out.tr HU.out).st4 (by omega) _ _ _ _
  have X1 := Lib.hid ((Y1.out.gr HU.out).st4 (b' := b3) (by omega) (fun b hb => by omega) (.bool pu) (.slice Au nu cu) (.bool pv) (.slice Av nv cv))
  rw [← hU2] at X1
  have YU : Hid (RatBox U2 b3 pu Au nu cu pv Av nv cv ((c - px) * (qy - py)) 1 10 4 (fun b => b ≠ b3)) := by
    subst hU2
    exact ⟨st4_same F3 _ _ _ _, (RU.out.st4 (fun b hb => by omega) _ _ _ _).into fun b hb => by omega, (RV.out.st4 (fun b hb => by omega) _ _ _ _).into fun b hb => by omega⟩
  simp only [st4] at hU2
  simp only [ptrTo, Act.put, List.setIfInBounds_toArray, List.set_cons_zero, List.set_cons_succ]
  simp only [List.drop_succ_cons, List.drop_zero]
  have xc0 := cell_of_row _ b3 0 _ _ (0, 0) F3
  have xf0 := frozen_of_row _ b3 0 _ _ F3
  have g1 := blk_set F3 0 (.bool pu)
  have xc1 := cell_of_row _ b3 1 _ _ (0, 0) g1
  have xf1 := frozen_of_row _ b3 1 _ _ g1
  have g2 := blk_set g1 1 (.slice Au nu cu)
  have xc2 := cell_of_row _ b3 2 _ _ (0, 0) g2
  have xf2 := frozen_of_row _ b3 2 _ _ g2
  have g3 := blk_set g2 2 (.bool pv)
  have xc3 := cell_of_row _ b3 3 _ _ (0, 0) g3
  have xf3 := frozen_of_row _ b3 3 _ _ g3
  simp only [List.setIfInBounds_toArray, List.set_cons_zero, List.set_cons_succ] at xc0 xc1 xc2 xc3
  clear g1 g2 g3 F3 hb31 hb32 hb33 i1 i2 hU lv gs gv ga
  go_wp2_with fail
  rw [← hU2]
  clear xc0 xf0 xc1 xf1 xc2 xf2 xc3 xf3 hU2 HU RU RV J2 J4 J6 J8 J10 Y1 Y2 LV L5
  refine wp_region_lexT (Grow U2) ((Grow.refl U2).dr) 7 [0, 1, 3, 4, 2, 5, 6] (by kernel_rfl) (by kernel_rfl) (by intro c a d v w h; cases d <;> exact h) ?_
  iterate 4 (apply lext_take; exact rfl; exact rfl; (intro W hW; have z0 := cell_of_row _ w.heap.size 0 _ _ (0, 0) (K0.out _ (GU.out.tr hW)); have z1 := cell_of_row _ w.heap.size 1 _ _ (0, 0) (K0.out _ (GU.out.tr hW)); have u0 := (YU.out.gr hW).c0; have u1 := (YU.out.gr hW).c1; have u2 := (YU.out.gr hW).c2; have u3 := (YU.out.gr hW).c3; have x0 := (X1.out.gr hW).c0; have x1 := (X1.out.gr hW).c1; (try clear hW); go_simp; with_reducible rfl); try simp only [Act.put, List.setIfInBounds_toArray, List.set_cons_zero, List.set_cons_succ])
  apply lext_turn; exact rfl; exact rfl; exact rfl; intro K hK; go_simp; go_at_call 69; refine WP.out _ _ ?_; intro rw1 m1 hg1 hr1
  have M1 := Lib.hid ((Grow.refl U2).dr.tr hg1)
  have RW := Lib.hid hr1
  refine hK.out _ _ M1.out ?_
  clear hK hg1 hr1
  try simp only [Act.put, List.setIfInBounds_toArray, List.set_cons_zero, List.set_cons_succ]
  apply lext_turn; exact rfl; exact rfl; exact rfl; intro K hK; go_simp; go_at_call 47; refine word_any 1 m1 (by omega) ?_; intro r2 m2 hg2 hr2
  obtain ⟨pw, Aw, nw, cw, rfl⟩ := hr2.parts
  have M2 := Lib.hid (M1.out.tr hg2)
  have RW := Lib.hid (RW.out.gr hg2)
  have RX : Hid (RatR m2 (fun _ => True) (.agg #[.bool pn, .slice An nn cn, .bool pw, .slice Aw nw cw]) (qx - px) 1 5 4) := ⟨_, _, _, _, _, _, _, _, rfl, (X1.out.gr M2.out).big.into fun _ _ => trivial, hr2.into fun _ _ => trivial⟩
  refine hK.out _ _ M2.out ?_
  clear hK hg2 hr2
  try simp only [Act.put, List.setIfInBounds_toArray, List.set_cons_zero, List.set_cons_succ]
  iterate 1 (apply lext_take; exact rfl; exact rfl; (intro W hW; (try clear hW); go_simp; with_reducible rfl); try simp only [Act.put, List.setIfInBounds_toArray, List.set_cons_zero, List.set_cons_succ])
  refine lext_nil ?_
  simp only [List.drop_succ_cons, List.drop_zero]
  go_wp2_with fail
  go_at_call 97
  refine over22_any ((c - px) * (qy - py)) 1 (qx - px) 1 10 4 5 4 _ _ _ _ m2 (YU.out.gr M2.out).rat RX.out (by omega) (by omega) (by omega) (by omega) ?_
  intro r3 m3 hg3 hr3
  have M3 := Lib.hid (M2.out.tr hg3)
  have RW := Lib.hid (RW.out.gr hg3)
  have R3 := Lib.hid hr3
  clear hg3 hr3 RX
  go_wp2_with fail
  go_at_call 96
  refine plus22_any py 1 _ _ 4 4 14 9 _ _ _ _ m3 RW.out R3.out (by omega) (by omega) (by omega) (by omega) ?_
  intro r4 m4 hg4 hr4
  obtain ⟨pe, Ae, ne, ce, pf, Af, nf, cf, rfl, he1, he2⟩ := hr4
  have GM := Lib.hid (GU.out.tr (M3.out.tr hg4))
  have RE := Lib.hid he1
  have RF := Lib.hid he2
  have LM := Lib.hid (show w.heap.size + 3 ≤ m3.heap.size by have := (GU.out.tr M3.out).size; have := GS.out; omega)
  clear hg4 he1 he2 RW R3
  have hb := K2.out _ GM.out
  have xc0 := cell_of_row _ (w.heap.size + 1 + 1) 0 _ _ (0, 0) hb
  have xf0 := frozen_of_row _ (w.heap.size + 1 + 1) 0 _ _ hb
  have xb1 := blk_set hb 0 (.bool pe)
  have xc1 := cell_of_row _ (w.heap.size + 1 + 1) 1 _ _ (0, 0) xb1
  have xf1 := frozen_of_row _ (w.heap.size + 1 + 1) 1 _ _ xb1
  have xb2 := blk_set xb1 1 (.slice Ae ne ce)
  have xc2 := cell_of_row _ (w.heap.size + 1 + 1) 2 _ _ (0, 0) xb2
  have xf2 := frozen_of_row _ (w.heap.size + 1 + 1) 2 _ _ xb2
  have xb3 := blk_set xb2 2 (.bool pf)
  have xc3 := cell_of_row _ (w.heap.size + 1 + 1) 3 _ _ (0, 0) xb3
  have xf3 := frozen_of_row _ (w.heap.size + 1 + 1) 3 _ _ xb3
  have xb4 := blk_set xb3 3 (.slice Af nf cf)
  have xr0 := cell_of_row _ (w.heap.size + 1 + 1) 0 _ _ (0, 0) xb4
  have xr1 := cell_of_row _ (w.heap.size + 1 + 1) 1 _ _ (0, 0) xb4
  have xr2 := cell_of_row _ (w.heap.size + 1 + 1) 2 _ _ (0, 0) xb4
  have xr3 := cell_of_row _ (w.heap.size + 1 + 1) 3 _ _ (0, 0) xb4
  simp only [List.setIfInBounds_toArray, List.set_cons_zero, List.set_cons_succ] at xc0 xc1 xc2 xc3 xr0 xr1 xr2 xr3
  clear xb1 xb2 xb3 xb4
  clear hb
  go_wp2
  refine bodyPost_ret (v := .agg #[.bool pe, .slice Ae ne ce, .bool pf, .slice Af nf cf]) (by simp [results, Try.f59, go_sem, xr0, xr1, xr2, xr3]) rfl (HR.out _ _ ?_ ?_)
  · exact (GA.out.tr GM.out).st4 (by omega) _ _ _ _
  · have lm := LM.out
    exact ⟨_, _, _, _, _, _, _, _, rfl, (RE.out.st4 (fun b hb => by omega) _ _ _ _).into fun b hb => by omega, (RF.out.st4 (fun b hb => by omega) _ _ _ _).into fun b hb => by omega⟩
end Go.Proofs.Ythgibnmnjoniiaa
