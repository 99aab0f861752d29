import Derived.Test.YthgibnmnjoniiaaChecked
import Derived.Test.YthgibnmnjoniiaaTwo
import Derived.Test.YthgibnmnjoniiaaMdLaw
import Derived.Test.YthgibnmnjoniiaaFreeB
namespace Go.Proofs.Ythgibnmnjoniiaa
open Go.RowKit Go.Lib B

/-- two cells of a box are written -/
def st2 (W : World) (b : Nat) (u0 u1 : Value) : World := (W.setCell ⟨b, 0, none⟩ u0).setCell ⟨b, 1, none⟩ u1
theorem st2_same {W : World} {b : Nat} {x0 x1 : Value} {t : TypeId} (h : W.heap[b]? = some (.cells #[x0, x1] t (0, 0))) (u0 u1 : Value) : (st2 W b u0 u1).heap[b]? = some (.cells #[u0, u1] t (0, 0)) := by
  have h1 := blk_set (blk_set h 0 u0) 1 u1
  simpa [st2] using h1
theorem st2_other {W : World} {b c : Nat} (hne : c ≠ b) (u0 u1 : Value) : (st2 W b u0 u1).heap[c]? = W.heap[c]? := by
  simp [st2, World.setCell, Array.getElem?_modify, hne.symm]
theorem BigR.st2 {W : World} {S : Nat → Prop} {v : Value} {z : Int} {k b : Nat} (h : BigR W S v z k) (hb : ∀ b', S b' → b' ≠ b) (u0 u1 : Value) : BigR (st2 W b u0 u1) S v z k := (h.set hb u0).set hb u1
theorem Grow.st2 {w W : World} {b : Nat} (h : Grow w W) (hb : w.heap.size ≤ b) (u0 u1 : Value) : Grow w (st2 W b u0 u1) := grow_set2 hb h u0 u1
theorem BigR.both {w : World} {S : Nat → Prop} {v : Value} {z : Int} {k : Nat} (h : BigR w S v z k) : BigR w (fun b => S b ∧ b < w.heap.size) v z k := by
  obtain ⟨h1, m, h2, h3⟩ := h
  exact ⟨h1, m, h2, h3.both (by decide)⟩

/-- a box that holds a whole number -/
structure NumBox (W : World) (b : Nat) (p : Bool) (A : Option Addr) (n c : Nat) (z : Int) (k : Nat) (S : Nat → Prop) : Prop where
  blk : W.heap[b]? = some (.cells #[.bool p, .slice A n c] 66 (0, 0))
  big : BigR W S (.agg #[.bool p, .slice A n c]) z k
theorem NumBox.gr {W W' : World} {b : Nat} {p : Bool} {A : Option Addr} {n c : Nat} {z : Int} {k : Nat} {S : Nat → Prop} (h : NumBox W b p A n c z k S) (hg : Grow W W') : NumBox W' b p A n c z k S := ⟨grow_blk hg h.blk, h.big.gr hg⟩
theorem NumBox.st2 {W : World} {b b' : Nat} {p : Bool} {A : Option Addr} {n c : Nat} {z : Int} {k : Nat} {S : Nat → Prop} (h : NumBox W b p A n c z k S) (hne : b ≠ b') (hS : ∀ x, S x → x ≠ b') (u0 u1 : Value) : NumBox (st2 W b' u0 u1) b p A n c z k S :=
  ⟨(st2_other hne u0 u1).trans h.blk, h.big.st2 hS u0 u1⟩
theorem NumBox.c0 {W : World} {b : Nat} {p : Bool} {A : Option Addr} {n c : Nat} {z : Int} {k : Nat} {S : Nat → Prop} (h : NumBox W b p A n c z k S) : W.cell? ⟨b, 0, none⟩ = some (.bool p) := cell_of_row _ b 0 _ _ (0, 0) h.blk
theorem NumBox.c1 {W : World} {b : Nat} {p : Bool} {A : Option Addr} {n c : Nat} {z : Int} {k : Nat} {S : Nat → Prop} (h : NumBox W b p A n c z k S) : W.cell? ⟨b, 1, none⟩ = some (.slice A n c) := cell_of_row _ b 1 _ _ (0, 0) h.blk


set_option maxRecDepth 100000 in
set_option maxHeartbeats 8000000 in
theorem wideDivs_walk (a b c : Int) (w : World) (ha : I64 a) (hb : I64 b) (hc : I64 c) {R : Ending → World → Prop} (hR : ∀ w', Grow w w' → R (.returned (.bool true)) w') :
    Calls Try.prog 9 #[.int .i64 a, .int .i64 b, .int .i64 c] w R := by
  have HR := Lib.hid hR
  clear hR
  have MD := Lib.hid fun W (R : Ending → World → Prop) hR => mulDiv_any a b c ha hb hc W (R := R) hR
  have IA := Lib.hid fun W (R : Ending → World → Prop) hR => int_any a W ha (R := R) hR
  have IB := Lib.hid fun W (R : Ending → World → Prop) hR => int_any b W hb (R := R) hR
  have IC := Lib.hid fun W (R : Ending → World → Prop) hR => int_any c W hc (R := R) hR
  by_cases h0 : c = 0
  · subst h0
    clear ha hb hc
    go_enter Try.func9, Try.ntmps9
    go_wp2_with fail
    go_at_call 38
    refine MD.out _ _ ?_
    intro w1 q r e hg1 h
    have h2 : mdS (tmS a b) (a.natAbs * b.natAbs) (0 : Int).natAbs (cmpI' 0 0) = (0, 0, 1) := by unfold mdS; rw [if_pos (show (0 : Int).natAbs = 0 from rfl)]
    rw [h2] at h
    simp only [Prod.mk.injEq] at h
    obtain ⟨rfl, rfl, rfl⟩ := h
    have G1 := Lib.hid hg1
    clear hg1 h2
    go_wp2_with fail
    go_at_call 39
    refine code22_any _ _ ?_
    go_wp2_with fail
    go_at_call 40
    refine live22_any _ ?_
    intro w99 hg99
    have HG99 := Lib.hid hg99
    clear hg99
    go_wp2
    exact HR.out _ ((G1.out).tr HG99.out)
  · have t0 : (c == 0) = false := by rw [beq_eq_false_iff_ne]; exact h0
    have HC := Lib.hid hc
    clear ha hb hc
    obtain ⟨D, hD⟩ : ∃ D, c.natAbs = D := ⟨_, rfl⟩
    have hDp : 0 < D := by omega
    have HD := Lib.hid hD
    by_cases hneg : c < 0
    · have t1 : decide (c < 0) = true := decide_eq_true hneg
      have HX := Lib.hid (show -(a * b) = if c < 0 then -(a * b) else a * b from (if_pos hneg).symm)
      have HCD := Lib.hid (show -c = ((D : Nat) : Int) by omega)
      have H0 := Lib.hid h0
      go_enter Try.func9, Try.ntmps9
      go_wp2_with fail
      go_at_call 38
      refine MD.out _ _ ?_
      intro w1 q r e hg1 hsp
      have SP := Lib.hid hsp
      have G1 := Lib.hid hg1
      clear hg1 hsp
      go_wp2_with fail
      go_at_call 42
      refine IA.out _ _ ?_
      intro r1 w2 hg2 hr2
      have G2 := Lib.hid (G1.out.tr hg2)
      have R1 := Lib.hid hr2
      clear hg2 hr2
      go_wp2_with fail
      go_at_call 42
      refine IB.out _ _ ?_
      intro r2 w3 hg3 hr3
      have G3 := Lib.hid (G2.out.tr hg3)
      have R1 := Lib.hid (R1.out.gr hg3)
      have R2 := Lib.hid hr3
      clear hg3 hr3
      go_wp2_with fail
      go_at_call 41
      refine mul_any _ _ 4 4 _ _ _ _ w3 R1.out R2.out (by omega) (by omega) ?_
      intro r3 w4 hg4 hr4
      obtain ⟨p1, A1, n1, c1, rfl⟩ := hr4.parts
      have G4 := Lib.hid (G3.out.tr hg4)
      have R3 := Lib.hid hr4.both
      clear hg4 hr4 R1 R2
      go_wp2_with fail
      have GA := Lib.hid ((Grow.refl w4).al (.cells #[.bool p1, .slice A1 n1 c1] 66))
      have X1 : Hid (NumBox (w4.alloc (.cells #[.bool p1, .slice A1 n1 c1] 66)) w4.heap.size p1 A1 n1 c1 (a * b) 8 (fun b => b < w4.heap.size)) := ⟨heap_alloc_new w4 _, (R3.out.gr GA.out).into fun b hb => hb.2⟩
      have SZ1 : Hid ((w4.alloc (.cells #[.bool p1, .slice A1 n1 c1] 66)).heap.size = w4.heap.size + 1) := World.size_alloc _ _
      generalize hB1 : w4.heap.size = B1 at *
      have HB1 := Lib.hid hB1
      generalize w4.alloc (.cells #[.bool p1, .slice A1 n1 c1] 66) = wa at *
      clear hB1
      go_at_call 42
      refine IC.out _ _ ?_
      intro r4 w5 hg5 hr5
      obtain ⟨p2, A2, n2, c2, rfl⟩ := hr5.parts
      have G5 := Lib.hid (G4.out.tr (GA.out.tr hg5))
      have X1 := Lib.hid (X1.out.gr hg5)
      have R5 := Lib.hid hr5.both
      have SZ5 := Lib.hid (show B1 + 1 ≤ w5.heap.size by have := hg5.size; have := SZ1.out; omega)
      have SZa := Lib.hid (show B1 + 1 ≤ wa.heap.size by have := SZ1.out; omega)
      have GW4 := Lib.hid (show w.heap.size ≤ B1 by have := G4.out.size; have := HB1.out; omega)
      clear hg5 hr5
      go_wp2_with fail
      have GB := Lib.hid ((Grow.refl w5).al (.cells #[.bool p2, .slice A2 n2 c2] 66))
      have X2 : Hid (NumBox (w5.alloc (.cells #[.bool p2, .slice A2 n2 c2] 66)) w5.heap.size p2 A2 n2 c2 c 4 (fun b => wa.heap.size ≤ b ∧ b < w5.heap.size)) := ⟨heap_alloc_new w5 _, R5.out.gr GB.out⟩
      have X1 := Lib.hid (X1.out.gr GB.out)
      have SZ6 : Hid ((w5.alloc (.cells #[.bool p2, .slice A2 n2 c2] 66)).heap.size = w5.heap.size + 1) := World.size_alloc _ _
      have G6 := Lib.hid (G5.out.tr GB.out)
      generalize hB2 : w5.heap.size = B2 at *
      generalize w5.alloc (.cells #[.bool p2, .slice A2 n2 c2] 66) = wb at *
      clear hB2
      have X1 : Hid (NumBox wb B1 p1 A1 n1 c1 (a * b) 8 (fun b => b < wb.heap.size ∧ b ≠ B1 ∧ b ≠ B2)) := ⟨X1.out.blk, X1.out.big.into fun b hb => by have := SZ5.out; have := SZ6.out; exact ⟨by omega, by omega, by omega⟩⟩
      have X2 : Hid (NumBox wb B2 p2 A2 n2 c2 c 4 (fun b => b < wb.heap.size ∧ b ≠ B1 ∧ b ≠ B2)) := ⟨X2.out.blk, X2.out.big.into fun b hb => by have := SZa.out; have := SZ6.out; exact ⟨by omega, by omega, by omega⟩⟩
      have NE := Lib.hid (show B1 ≠ B2 by have := SZ5.out; omega)
      have LB := Lib.hid (show B1 < wb.heap.size ∧ B2 < wb.heap.size ∧ w.heap.size ≤ B1 ∧ w.heap.size ≤ B2 by have := SZ5.out; have := SZ6.out; have := GW4.out; exact ⟨by omega, by omega, by omega, by omega⟩)
      clear R3 GA SZ1 HB1 R5 SZ5 SZa GW4 GB SZ6 G1 G2 G3 G4 G5
      have z0 := X1.out.c0
      have z1 := X1.out.c1
      have y0 := X2.out.c0
      have y1 := X2.out.c1
      have LAW := Lib.hid (md_law H0.out HD.out.symm HX.out SP.out)
      go_wp2_with fail
      clear z0 z1 y0 y1 hneg t1 t0 h0 hD
      refine wp_region_lexT (Grow wb) ((Grow.refl wb).dr) 3 [0, 2, 1] (by kernel_rfl) (by kernel_rfl) (by intro c a d v w h; cases d <;> exact h) ?_
      iterate 2 (apply lext_take; exact rfl; exact rfl; (intro W hW; have z0 := (X1.out.gr hW).c0; have z1 := (X1.out.gr hW).c1; have y0 := (X2.out.gr hW).c0; have y1 := (X2.out.gr hW).c1; (try clear hW); go_simp; with_reducible rfl); try simp only [Act.put, List.setIfInBounds_toArray, List.set_cons_zero, List.set_cons_succ])
      apply lext_turn; exact rfl; exact rfl; exact rfl; intro K hK; go_simp; go_at_call 43; refine neg_any _ 8 _ _ _ (X1.out.big.gr (Grow.refl wb).dr) (by omega) ?_; intro rn1 n1' hg1 hr1
      have N1' := Lib.hid ((Grow.refl wb).dr.tr hg1)
      obtain ⟨pn1, An1, nn1, cn1, rfl⟩ := hr1.parts
      have RN1 := Lib.hid hr1
      refine hK.out _ _ N1'.out ?_
      clear hK hg1 hr1
      try simp only [Act.put, List.setIfInBounds_toArray, List.set_cons_zero, List.set_cons_succ]
      refine lext_nil ?_
      simp only [List.drop_succ_cons, List.drop_zero]
      go_wp2_with fail
      go_at_call 43
      refine neg_any _ 4 _ _ _ (X2.out.big.gr N1'.out) (by omega) ?_
      intro rn2 n2' hg2 hr2
      have N2' := Lib.hid (N1'.out.tr hg2)
      obtain ⟨pn2, An2, nn2, cn2, rfl⟩ := hr2.parts
      have RN1 := Lib.hid (RN1.out.gr hg2)
      have RN2 := Lib.hid hr2
      clear hg2 hr2
      have X1 := Lib.hid (X1.out.gr N2'.out)
      have X2 := Lib.hid (X2.out.gr N2'.out)
      have F1 := X1.out.blk
      have F2 := (st2_other (W := n2') (c := B2) (b := B1) (fun e => NE.out e.symm) (.bool pn1) (.slice An1 nn1 cn1)).trans X2.out.blk
      obtain ⟨wc, hwc⟩ : ∃ wc, wc = st2 (st2 n2' B1 (.bool pn1) (.slice An1 nn1 cn1)) B2 (.bool pn2) (.slice An2 nn2 cn2) := ⟨_, rfl⟩
      have SZc : Hid (wb.heap.size ≤ wc.heap.size) := by
        subst hwc
        show wb.heap.size ≤ _
        have := N2'.out.size
        simp only [st2, size_setCell]
        exact this
      have X1 : Hid (NumBox wc B1 pn1 An1 nn1 cn1 (-(a * b)) 8 (fun b => b < wc.heap.size ∧ b ≠ B1 ∧ b ≠ B2)) := by
        have hsz := SZc.out
        refine ⟨?_, ?_⟩
        · rw [hwc]
          exact (st2_other NE.out _ _).trans (st2_same F1 _ _)
        · have h1 := (RN1.out.into (T := fun b => b < wc.heap.size ∧ b ≠ B1 ∧ b ≠ B2) fun b hb => ⟨by have := hb.1.1; omega, hb.1.2⟩)
          have h2 := (h1.st2 (b := B1) (fun b hb => hb.2.1) (.bool pn1) (.slice An1 nn1 cn1)).st2 (b := B2) (fun b hb => hb.2.2) (.bool pn2) (.slice An2 nn2 cn2)
          rw [← hwc] at h2
          exact h2
      have X2 : Hid (NumBox wc B2 pn2 An2 nn2 cn2 (-c) 4 (fun b => b < wc.heap.size ∧ b ≠ B1 ∧ b ≠ B2)) := by
        have hsz := SZc.out
        refine ⟨?_, ?_⟩
        · rw [hwc]
          exact st2_same F2 _ _
        · have h1 := (RN2.out.into (T := fun b => b < wc.heap.size ∧ b ≠ B1 ∧ b ≠ B2) fun b hb => ⟨by have := hb.1.1; omega, hb.1.2⟩)
          have h2 := (h1.st2 (b := B1) (fun b hb => hb.2.1) (.bool pn1) (.slice An1 nn1 cn1)).st2 (b := B2) (fun b hb => hb.2.2) (.bool pn2) (.slice An2 nn2 cn2)
          rw [← hwc] at h2
          exact h2
      have G6 : Hid (Grow w wc) := by
        rw [hwc]
        exact ((G6.out.tr N2'.out).st2 LB.out.2.2.1 _ _).st2 LB.out.2.2.2 _ _
      have LB : Hid (B1 < wc.heap.size ∧ B2 < wc.heap.size ∧ w.heap.size ≤ B1 ∧ w.heap.size ≤ B2) := ⟨Nat.lt_of_lt_of_le LB.out.1 SZc.out, Nat.lt_of_lt_of_le LB.out.2.1 SZc.out, LB.out.2.2⟩
      simp only [st2] at F2 hwc
      have c0 := cell_of_row _ B1 0 _ _ (0, 0) F1
      have f0 := frozen_of_row _ B1 0 _ _ F1
      have g1 := blk_set F1 0 (.bool pn1)
      have c1 := cell_of_row _ B1 1 _ _ (0, 0) g1
      have f1 := frozen_of_row _ B1 1 _ _ g1
      have d0 := cell_of_row _ B2 0 _ _ (0, 0) F2
      have e0 := frozen_of_row _ B2 0 _ _ F2
      have g2 := blk_set F2 0 (.bool pn2)
      have d1 := cell_of_row _ B2 1 _ _ (0, 0) g2
      have e1 := frozen_of_row _ B2 1 _ _ g2
      simp only [List.setIfInBounds_toArray, List.set_cons_zero] at c0 c1 d0 d1
      clear g1 g2 F1 F2
      go_wp2_with fail
      rw [← hwc]
      clear c0 f0 c1 f1 d0 e0 d1 e1 hwc N1' N2' RN1 RN2 SZc
      rw [HCD.out] at X2
      generalize -(a * b) = x at X1 LAW
      obtain ⟨wb, rfl⟩ : ∃ wb, wb = wc := ⟨_, rfl⟩
      refine wp_region_free2 ⟨6, some 12, 66, #[.bool false, .slice none 0 0]⟩ ⟨7, some 13, 66, #[.bool false, .slice none 0 0]⟩ 8 [1, 4, 0, 2, 3, 5] (by kernel_rfl) (by kernel_rfl) (by decide) ⟨_, rfl, rfl, rfl, fun a W K h => by go_simp; exact h⟩ ⟨_, rfl, rfl, rfl, fun a W K h => by go_simp; exact h⟩ (by intro c a d v w h; cases d <;> exact h) rfl rfl ?_
      apply fr_take; exact rfl; (simp); (simp); (intro x1 x2; exact rfl)
      · intro x1 x2 W' hW
        have z0 := (X1.out.gr ((Grow.refl _).dr.tr hW)).c0
        have z1 := (X1.out.gr ((Grow.refl _).dr.tr hW)).c1
        have y0 := (X2.out.gr ((Grow.refl _).dr.tr hW)).c0
        have y1 := (X2.out.gr ((Grow.refl _).dr.tr hW)).c1
        clear hW
        simp only [FA.put2, Act.put, List.setIfInBounds_toArray, List.set_cons_zero, List.set_cons_succ]
        go_simp
        with_reducible rfl
      simp only [Act.put, List.setIfInBounds_toArray, List.set_cons_zero, List.set_cons_succ]
      apply fr_take; exact rfl; (simp); (simp); (intro x1 x2; exact rfl)
      · intro x1 x2 W' hW
        have z0 := (X1.out.gr ((Grow.refl _).dr.tr hW)).c0
        have z1 := (X1.out.gr ((Grow.refl _).dr.tr hW)).c1
        have y0 := (X2.out.gr ((Grow.refl _).dr.tr hW)).c0
        have y1 := (X2.out.gr ((Grow.refl _).dr.tr hW)).c1
        clear hW
        simp only [FA.put2, Act.put, List.setIfInBounds_toArray, List.set_cons_zero, List.set_cons_succ]
        go_simp
        with_reducible rfl
      simp only [Act.put, List.setIfInBounds_toArray, List.set_cons_zero, List.set_cons_succ]
      apply fr_turn; exact rfl; exact rfl; (simp); (simp); (intro x1 x2; exact rfl)
      intro x1 x2 v1 hW K hK
      simp only [FA.put2, Act.put, List.setIfInBounds_toArray, List.set_cons_zero, List.set_cons_succ]
      go_simp
      go_at_call 42
      refine int_any (-9223372036854775808) _ (by constructor <;> omega) ?_
      intro r1 v2 hg2 hr2
      have H1 := Lib.hid ((Grow.refl _).dr.tr (hW.tr hg2))
      have R1 := Lib.hid hr2
      refine hK.out _ _ hg2 ?_
      clear hK hg2 hr2 hW
      simp only [Act.put, List.setIfInBounds_toArray, List.set_cons_zero, List.set_cons_succ]
      apply fr_turn; exact rfl; exact rfl; (simp); (simp); (intro x1 x2; exact rfl)
      intro x1 x2 v3 hW K hK
      simp only [FA.put2, Act.put, List.setIfInBounds_toArray, List.set_cons_zero, List.set_cons_succ]
      go_simp
      go_at_call 41
      refine mul_any _ _ 4 4 _ _ _ _ v3 (R1.out.gr hW) (X2.out.big.gr (H1.out.tr hW)) (by omega) (by omega) ?_
      intro r3 v4 hg4 hr4
      obtain ⟨pl, Al, nl, cl, rfl⟩ := hr4.parts
      have H2 := Lib.hid (H1.out.tr (hW.tr hg4))
      have RL := Lib.hid hr4.both
      refine hK.out _ _ hg4 ?_
      clear hK hg4 hr4 hW
      simp only [Act.put, List.setIfInBounds_toArray, List.set_cons_zero, List.set_cons_succ]
      apply fr_turn; exact rfl; exact rfl; (simp); (simp); (intro x1 x2; exact rfl)
      intro x1 x2 v5 hW K hK
      simp only [FA.put2, Act.put, List.setIfInBounds_toArray, List.set_cons_zero, List.set_cons_succ]
      go_simp
      go_at_call 44
      refine two_any 0 9223372036854775808 v5 (by omega) (by omega) ?_
      intro r5 v6 hg6 hr6
      rw [show (((0 : Nat) : Int) * 18446744073709551616 + ((9223372036854775808 : Nat) : Int)) = 9223372036854775808 by decide] at hr6
      have H3 := Lib.hid (H2.out.tr (hW.tr hg6))
      have RL := Lib.hid (RL.out.gr (hW.tr hg6))
      have R5 := Lib.hid hr6
      refine hK.out _ _ hg6 ?_
      clear hK hg6 hr6 hW
      simp only [Act.put, List.setIfInBounds_toArray, List.set_cons_zero, List.set_cons_succ]
      apply fr_turn; exact rfl; exact rfl; (simp); (simp); (intro x1 x2; exact rfl)
      intro x1 x2 v7 hW K hK
      simp only [FA.put2, Act.put, List.setIfInBounds_toArray, List.set_cons_zero, List.set_cons_succ]
      go_simp
      go_at_call 41
      refine mul_any _ _ 13 4 _ _ _ _ v7 (R5.out.gr hW) (X2.out.big.gr (H3.out.tr hW)) (by omega) (by omega) ?_
      intro r7 v8 hg8 hr8
      obtain ⟨ph, Ah, nh, ch, rfl⟩ := hr8.parts
      have H4 := Lib.hid (H3.out.tr (hW.tr hg8))
      have RL := Lib.hid (RL.out.gr (hW.tr hg8))
      have RH := Lib.hid hr8.both
      refine hK.out _ _ hg8 ?_
      clear hK hg8 hr8 hW
      simp only [Act.put, List.setIfInBounds_toArray, List.set_cons_zero, List.set_cons_succ]
      refine fr_nil ?_
      intro b1 b2 V hV hne hb1 hb2
      obtain ⟨hb11, hb12, hb13⟩ := hb1
      obtain ⟨hb21, hb22, hb23⟩ := hb2
      have i1 := hb13 (v3.heap.size, v4.heap.size) (by simp)
      have i2 := hb23 (v3.heap.size, v4.heap.size) (by simp)
      have i3 := hb13 (v7.heap.size, v8.heap.size) (by simp)
      have i4 := hb23 (v7.heap.size, v8.heap.size) (by simp)
      dsimp only at i1 i2 i3 i4
      obtain ⟨lb1, lb2, lb3, lb4⟩ := LB.out
      have NL1 : Hid (∀ b, v3.heap.size ≤ b ∧ b < v4.heap.size → b ≠ b1 ∧ b ≠ b2) := fun b hb => ⟨by omega, by omega⟩
      have NH1 : Hid (∀ b, v7.heap.size ≤ b ∧ b < v8.heap.size → b ≠ b1 ∧ b ≠ b2) := fun b hb => ⟨by omega, by omega⟩
      have NB : Hid (B1 ≠ b1 ∧ B1 ≠ b2 ∧ B2 ≠ b1 ∧ B2 ≠ b2) := ⟨by omega, by omega, by omega, by omega⟩
      have NS : Hid (∀ b, b < wb.heap.size ∧ b ≠ B1 ∧ b ≠ B2 → b ≠ b1 ∧ b ≠ b2) := fun b hb => ⟨by omega, by omega⟩
      have HV := Lib.hid (H4.out.tr hV)
      have RL := Lib.hid (RL.out.gr hV)
      have RH := Lib.hid (RH.out.gr hV)
      have X1 := Lib.hid (X1.out.gr HV.out)
      have X2 := Lib.hid (X2.out.gr HV.out)
      have F2 := (st2_other (W := V) (c := b2) (b := b1) hne.symm (.bool pl) (.slice Al nl cl)).trans hb21
      have F1 := hb11
      obtain ⟨V2, hV2⟩ : ∃ V2, V2 = st2 (st2 V b1 (.bool pl) (.slice Al nl cl)) b2 (.bool ph) (.slice Ah nh ch) := ⟨_, rfl⟩
      have Y1 := Lib.hid ((X1.out.st2 NB.out.1 (fun b hb => (NS.out b hb).1) (.bool pl) (.slice Al nl cl)).st2 NB.out.2.1 (fun b hb => (NS.out b hb).2) (.bool ph) (.slice Ah nh ch))
      rw [← hV2] at Y1
      have Y2 := Lib.hid ((X2.out.st2 NB.out.2.2.1 (fun b hb => (NS.out b hb).1) (.bool pl) (.slice Al nl cl)).st2 NB.out.2.2.2 (fun b hb => (NS.out b hb).2) (.bool ph) (.slice Ah nh ch))
      rw [← hV2] at Y2
      have YL : Hid (NumBox V2 b1 pl Al nl cl (-9223372036854775808 * (D : Int)) 8 (fun b => v3.heap.size ≤ b ∧ b < v4.heap.size)) := by
        subst hV2
        exact ⟨(st2_other hne _ _).trans (st2_same hb11 _ _), (RL.out.st2 (fun b hb => (NL1.out b hb).1) _ _).st2 (fun b hb => (NL1.out b hb).2) _ _⟩
      have YH : Hid (NumBox V2 b2 ph Ah nh ch (9223372036854775808 * (D : Int)) 17 (fun b => v7.heap.size ≤ b ∧ b < v8.heap.size)) := by
        subst hV2
        exact ⟨st2_same F2 _ _, (RH.out.st2 (fun b hb => (NH1.out b hb).1) _ _).st2 (fun b hb => (NH1.out b hb).2) _ _⟩
      have SZV : Hid (wb.heap.size ≤ V2.heap.size) := by
        subst hV2
        show wb.heap.size ≤ _
        have := HV.out.size
        simp only [st2, size_setCell]
        exact this
      have GV2 : Hid (Grow w V2) := by
        subst hV2
        exact ((G6.out.tr HV.out).st2 (by omega) _ _).st2 (by omega) _ _
      simp only [st2] at F2 hV2
      simp only [FA.put2, ptrTo, Act.put, List.setIfInBounds_toArray, List.set_cons_zero, List.set_cons_succ]
      simp only [List.drop_succ_cons, List.drop_zero]
      have c0 := cell_of_row _ b1 0 _ _ (0, 0) F1
      have f0 := frozen_of_row _ b1 0 _ _ F1
      have g1 := blk_set F1 0 (.bool pl)
      have c1 := cell_of_row _ b1 1 _ _ (0, 0) g1
      have f1 := frozen_of_row _ b1 1 _ _ g1
      have d0 := cell_of_row _ b2 0 _ _ (0, 0) F2
      have e0 := frozen_of_row _ b2 0 _ _ F2
      have g2 := blk_set F2 0 (.bool ph)
      have d1 := cell_of_row _ b2 1 _ _ (0, 0) g2
      have e1 := frozen_of_row _ b2 1 _ _ g2
      have z0 := Y1.out.c0
      have z1 := Y1.out.c1
      have y0 := Y2.out.c0
      have y1 := Y2.out.c1
      have l0 := YL.out.c0
      have l1 := YL.out.c1
      have m0 := YH.out.c0
      have m1 := YH.out.c1
      simp only [List.setIfInBounds_toArray, List.set_cons_zero] at c0 c1 d0 d1
      clear g1 g2 F1 F2 hb11 hb12 hb13 hb21 hb22 hb23 i1 i2 i3 i4 hne hV lb1 lb2 lb3 lb4
      rw [hV2] at z0 z1 y0 y1 l0 l1 m0 m1
      go_wp2_with fail
      rw [← hV2]
      clear c0 f0 c1 f1 d0 e0 d1 e1 z0 z1 y0 y1 l0 l1 m0 m1 hV2
      have C1 := Lib.hid fun (R : Ending → World → Prop) hR => cmp_any x (-9223372036854775808 * (D : Int)) 8 8 _ _ _ _ V2 Y1.out.big YL.out.big (by omega) (by omega) (R := R) hR
      have C2 := Lib.hid fun W (g : Grow V2 W) (R : Ending → World → Prop) hR => cmp_any x (9223372036854775808 * (D : Int)) 8 17 _ _ _ _ W (Y1.out.big.gr g) (YH.out.big.gr g) (by omega) (by omega) (R := R) hR
      obtain ⟨s1, hs1⟩ : ∃ s1, (x - -9223372036854775808 * (D : Int)).sign = s1 := ⟨_, rfl⟩
      obtain ⟨s2, hs2⟩ : ∃ s2, (x - 9223372036854775808 * (D : Int)).sign = s2 := ⟨_, rfl⟩
      rw [hs1] at C1
      rw [hs2] at C2
      have q1 : s1 < 0 ↔ x < -9223372036854775808 * (D : Int) := by
        rw [← hs1, ← sgnC]
        unfold cmpI'
        split <;> (try split) <;> omega
      have q2 : 0 ≤ s2 ↔ 9223372036854775808 * (D : Int) ≤ x := by
        rw [← hs2, ← sgnC]
        unfold cmpI'
        split <;> (try split) <;> omega
      clear hs1 hs2
      have GA2 : Hid (∀ W, Grow V2 W → Grow w W) := fun W h => GV2.out.tr h
      refine C1.out _ ?_
      intro V3 hV3
      have HV3 := Lib.hid hV3
      clear hV3 C1
      by_cases hlow : x < -9223372036854775808 * (D : Int)
      · obtain ⟨rfl, rfl, rfl⟩ := LAW.out.1 (Or.inl hlow)
        have u1 : decide (s1 < 0) = true := decide_eq_true (q1.2 hlow)
        clear q1 q2 hlow LAW
        go_wp2_with fail
        go_at_call 39
        refine code22_any _ _ ?_
        go_wp2_with fail
        go_at_call 40
        refine live22_any _ ?_
        intro w99 hg99
        have HG99 := Lib.hid hg99
        clear hg99
        go_wp2
        exact HR.out _ ((GA2.out _ HV3.out).tr HG99.out)
      · have u1 : decide (s1 < 0) = false := decide_eq_false fun h => hlow (q1.1 h)
        have z0 := (Y1.out.gr HV3.out).c0
        have z1 := (Y1.out.gr HV3.out).c1
        have m0 := (YH.out.gr HV3.out).c0
        have m1 := (YH.out.gr HV3.out).c1
        by_cases hhigh : 9223372036854775808 * (D : Int) ≤ x
        · obtain ⟨rfl, rfl, rfl⟩ := LAW.out.1 (Or.inr hhigh)
          have u2 : decide (0 ≤ s2) = true := decide_eq_true (q2.2 hhigh)
          clear q1 q2 hlow hhigh LAW
          go_wp2_with fail
          go_at_call 45
          refine C2.out _ HV3.out _ ?_
          intro V4 hV4
          have HV4 := Lib.hid (HV3.out.tr hV4)
          clear hV4 z0 z1 m0 m1
          go_wp2_with fail
          go_at_call 39
          refine code22_any _ _ ?_
          go_wp2_with fail
          go_at_call 40
          refine live22_any _ ?_
          intro w99 hg99
          have HG99 := Lib.hid hg99
          clear hg99
          go_wp2
          exact HR.out _ ((GA2.out _ HV4.out).tr HG99.out)
        · have u2 : decide (0 ≤ s2) = false := decide_eq_false fun h => hhigh (q2.1 h)
          obtain ⟨rfl, le, lr, li⟩ := LAW.out.2 (fun h => h.elim hlow hhigh)
          have LE := Lib.hid le
          have LR := Lib.hid lr
          have LI := Lib.hid li
          clear q1 q2 hlow hhigh LAW le lr li
          go_wp2_with fail
          go_at_call 45
          refine C2.out _ HV3.out _ ?_
          intro V4 hV4
          have HV4 := Lib.hid (HV3.out.tr hV4)
          have Y1 := Lib.hid (Y1.out.gr HV4.out)
          have Y2 := Lib.hid (Y2.out.gr HV4.out)
          have G4 := Lib.hid (GA2.out _ HV4.out)
          have SB3 := Lib.hid (show wb.heap.size ≤ V4.heap.size by have := HV4.out.size; have := SZV.out; omega)
          have SB := Lib.hid (show B2 < V4.heap.size by have := lt_of_block Y2.out.blk; exact this)
          clear hV4 z0 z1 m0 m1 C2 YL YH HV3 HV4 GA2
          go_wp2_with fail
          clear u1 u2
          refine wp_region_free1 ⟨6, some 14, 66, #[.bool false, .slice none 0 0]⟩ 7 [0, 1, 3, 2, 4, 5] (by kernel_rfl) (by kernel_rfl) ?_ (by intro c a d v w h; cases d <;> exact h) rfl ?_
          · exact ⟨_, rfl, rfl, rfl, fun a W K h => by go_simp; exact h⟩
          apply fr1_take; exact rfl; (simp); (intro x1; exact rfl)
          · intro x1 W' hW
            have z0 := (Y1.out.gr ((Grow.refl _).dr.tr hW)).c0
            have z1 := (Y1.out.gr ((Grow.refl _).dr.tr hW)).c1
            have y0 := (Y2.out.gr ((Grow.refl _).dr.tr hW)).c0
            have y1 := (Y2.out.gr ((Grow.refl _).dr.tr hW)).c1
            clear hW
            simp only [Act.put, List.setIfInBounds_toArray, List.set_cons_zero, List.set_cons_succ]
            go_simp
            with_reducible rfl
          simp only [Act.put, List.setIfInBounds_toArray, List.set_cons_zero, List.set_cons_succ]
          apply fr1_take; exact rfl; (simp); (intro x1; exact rfl)
          · intro x1 W' hW
            have z0 := (Y1.out.gr ((Grow.refl _).dr.tr hW)).c0
            have z1 := (Y1.out.gr ((Grow.refl _).dr.tr hW)).c1
            have y0 := (Y2.out.gr ((Grow.refl _).dr.tr hW)).c0
            have y1 := (Y2.out.gr ((Grow.refl _).dr.tr hW)).c1
            clear hW
            simp only [Act.put, List.setIfInBounds_toArray, List.set_cons_zero, List.set_cons_succ]
            go_simp
            with_reducible rfl
          simp only [Act.put, List.setIfInBounds_toArray, List.set_cons_zero, List.set_cons_succ]
          apply fr1_take; exact rfl; (simp); (intro x1; exact rfl)
          · intro x1 W' hW
            have z0 := (Y1.out.gr ((Grow.refl _).dr.tr hW)).c0
            have z1 := (Y1.out.gr ((Grow.refl _).dr.tr hW)).c1
            have y0 := (Y2.out.gr ((Grow.refl _).dr.tr hW)).c0
            have y1 := (Y2.out.gr ((Grow.refl _).dr.tr hW)).c1
            clear hW
            simp only [Act.put, List.setIfInBounds_toArray, List.set_cons_zero, List.set_cons_succ]
            go_simp
            with_reducible rfl
          simp only [Act.put, List.setIfInBounds_toArray, List.set_cons_zero, List.set_cons_succ]
          apply fr1_turn; exact rfl; exact rfl; (simp); (intro x1; exact rfl)
          intro x1 k1 hW K hK
          simp only [Act.put, List.setIfInBounds_toArray, List.set_cons_zero, List.set_cons_succ]
          go_simp
          go_at_call 42
          refine int_any q _ LI.out ?_
          intro rq k2 hg2 hr2
          have J1 := Lib.hid ((Grow.refl _).dr.tr (hW.tr hg2))
          have RQ := Lib.hid hr2
          refine hK.out _ _ hg2 ?_
          clear hK hg2 hr2 hW
          simp only [Act.put, List.setIfInBounds_toArray, List.set_cons_zero, List.set_cons_succ]
          apply fr1_turn; exact rfl; exact rfl; (simp); (intro x1; exact rfl)
          intro x1 k3 hW K hK
          simp only [Act.put, List.setIfInBounds_toArray, List.set_cons_zero, List.set_cons_succ]
          go_simp
          go_at_call 41
          refine mul_any _ _ 4 4 _ _ _ _ k3 (RQ.out.gr hW) (Y2.out.big.gr (J1.out.tr hW)) (by omega) (by omega) ?_
          intro rm k4 hg4 hr4
          have J2 := Lib.hid (J1.out.tr (hW.tr hg4))
          have RM := Lib.hid hr4
          refine hK.out _ _ hg4 ?_
          clear hK hg4 hr4 hW
          simp only [Act.put, List.setIfInBounds_toArray, List.set_cons_zero, List.set_cons_succ]
          apply fr1_turn; exact rfl; exact rfl; (simp); (intro x1; exact rfl)
          intro x1 k5 hW K hK
          simp only [Act.put, List.setIfInBounds_toArray, List.set_cons_zero, List.set_cons_succ]
          go_simp
          go_at_call 46
          refine sub_any _ _ 8 8 _ _ _ _ k5 (Y1.out.big.gr (J2.out.tr hW)) (RM.out.gr hW) (by omega) (by omega) ?_
          intro rs k6 hg6 hr6
          rw [LE.out] at hr6
          obtain ⟨ps, As, ns, cs, rfl⟩ := hr6.parts
          have J3 := Lib.hid (J2.out.tr (hW.tr hg6))
          have RS := Lib.hid hr6.both
          refine hK.out _ _ hg6 ?_
          clear hK hg6 hr6 hW
          simp only [Act.put, List.setIfInBounds_toArray, List.set_cons_zero, List.set_cons_succ]
          refine fr1_nil ?_
          intro b3 U hU hb3
          obtain ⟨hb31, hb32, hb33⟩ := hb3
          have i1 := hb33 (k5.heap.size, k6.heap.size) (by simp)
          dsimp only at i1
          have NR : Hid (∀ b, k5.heap.size ≤ b ∧ b < k6.heap.size → b ≠ b3) := fun b hb => by omega
          have N2 := Lib.hid (show B2 ≠ b3 by have := SB.out; omega)
          have N3 := Lib.hid (show w.heap.size ≤ b3 by have := G4.out.size; omega)
          have HU := Lib.hid (J3.out.tr hU)
          have RS := Lib.hid (RS.out.gr hU)
          have Y2 := Lib.hid (Y2.out.gr HU.out)
          have F3 := hb31
          obtain ⟨U2, hU2⟩ : ∃ U2, U2 = st2 U b3 (.bool ps) (.slice As ns cs) := ⟨_, rfl⟩
          have Y2 := Lib.hid (Y2.out.st2 N2.out (fun b hb => by have := SB3.out; have := hb.1; omega) (.bool ps) (.slice As ns cs))
          rw [← hU2] at Y2
          have YR : Hid (NumBox U2 b3 ps As ns cs ((r : Nat) : Int) 9 (fun b => k5.heap.size ≤ b ∧ b < k6.heap.size)) := by
            subst hU2
            exact ⟨st2_same hb31 _ _, RS.out.st2 (fun b hb => NR.out b hb) _ _⟩
          have GU2 : Hid (Grow w U2) := by
            subst hU2
            exact (G4.out.tr HU.out).st2 N3.out _ _
          simp only [st2] at hU2
          simp only [ptrTo, Act.put, List.setIfInBounds_toArray, List.set_cons_zero, List.set_cons_succ]
          simp only [List.drop_succ_cons, List.drop_zero]
          have c0 := cell_of_row _ b3 0 _ _ (0, 0) F3
          have f0 := frozen_of_row _ b3 0 _ _ F3
          have g1 := blk_set F3 0 (.bool ps)
          have c1 := cell_of_row _ b3 1 _ _ (0, 0) g1
          have f1 := frozen_of_row _ b3 1 _ _ g1
          simp only [List.setIfInBounds_toArray, List.set_cons_zero] at c0 c1
          clear g1 F3 hb31 hb32 hb33 i1 hU
          go_wp2_with fail
          rw [← hU2]
          clear c0 f0 c1 f1 hU2
          have CD := Lib.hid fun W (g : Grow U2 W) (R : Ending → World → Prop) hR => cmp_any ((r : Nat) : Int) (D : Int) 9 4 _ _ _ _ W (YR.out.big.gr g) (Y2.out.big.gr g) (by omega) (by omega) (R := R) hR
          rw [Int.sign_eq_neg_one_of_neg (show ((r : Nat) : Int) - (D : Int) < 0 by have := LR.out; omega)] at CD
          have hr64 := Lib.hid (show r < 18446744073709551616 by
            have h1 := LR.out
            have h2 := HD.out
            have h3 := HC.out
            unfold I64 at h3
            omega)
          refine wp_region_lexT (Grow U2) ((Grow.refl U2).dr) 13 [0, 1, 2, 3, 4, 5, 6, 7, 8, 9, 10, 11, 12] (by kernel_rfl) (by kernel_rfl) (by intro c a d v w h; cases d <;> exact h) ?_
          iterate 1 (apply lext_take; exact rfl; exact rfl; (intro W hW; (try clear hW); go_simp; with_reducible rfl); try simp only [Act.put, List.setIfInBounds_toArray, List.set_cons_zero, List.set_cons_succ])
          apply lext_turn; exact rfl; exact rfl; exact rfl; intro K hK; go_simp; go_at_call 39; refine code22_any _ _ ?_; refine hK.out _ _ (Grow.refl U2).dr ?_; clear hK
          try simp only [Act.put, List.setIfInBounds_toArray, List.set_cons_zero, List.set_cons_succ]
          iterate 4 (apply lext_take; exact rfl; exact rfl; (intro W hW; have z0 := (YR.out.gr hW).c0; have z1 := (YR.out.gr hW).c1; have y0 := (Y2.out.gr hW).c0; have y1 := (Y2.out.gr hW).c1; (try clear hW); go_simp; with_reducible rfl); try simp only [Act.put, List.setIfInBounds_toArray, List.set_cons_zero, List.set_cons_succ])
          apply lext_turn; exact rfl; exact rfl; exact rfl; intro K hK; go_simp; go_at_call 47; refine word_any r _ hr64.out ?_; intro rw1 j1 hg1 hr1
          have J1' := Lib.hid ((Grow.refl U2).dr.tr hg1)
          have RW := Lib.hid hr1
          refine hK.out _ _ J1'.out ?_
          clear hK hg1 hr1
          try simp only [Act.put, List.setIfInBounds_toArray, List.set_cons_zero, List.set_cons_succ]
          apply lext_turn; exact rfl; exact rfl; exact rfl; intro K hK; go_simp; go_at_call 45; refine cmp_any ((r : Nat) : Int) ((r : Nat) : Int) 9 4 _ _ _ _ j1 (YR.out.big.gr J1'.out) RW.out (by omega) (by omega) ?_; rw [Int.sub_self, Int.sign_zero]; intro j2 hg2
          have J2' := Lib.hid (J1'.out.tr hg2)
          refine hK.out _ _ J2'.out ?_
          clear hK hg2
          try simp only [Act.put, List.setIfInBounds_toArray, List.set_cons_zero, List.set_cons_succ]
          iterate 5 (apply lext_take; exact rfl; exact rfl; (intro W hW; have z0 := (YR.out.gr hW).c0; have z1 := (YR.out.gr hW).c1; have y0 := (Y2.out.gr hW).c0; have y1 := (Y2.out.gr hW).c1; (try clear hW); go_simp; with_reducible rfl); try simp only [Act.put, List.setIfInBounds_toArray, List.set_cons_zero, List.set_cons_succ])
          refine lext_nil ?_
          simp only [List.drop_succ_cons, List.drop_zero]
          go_wp2_with fail
          go_at_call 45
          refine CD.out _ J2'.out _ ?_
          intro j3 hg3
          have J3' := Lib.hid (GU2.out.tr (J2'.out.tr hg3))
          clear hg3
          go_wp2_with fail
          go_at_call 40
          refine live22_any _ ?_
          intro w99 hg99
          have HG99 := Lib.hid hg99
          clear hg99
          go_wp2
          exact HR.out _ ((J3'.out).tr HG99.out)
    · have t1 : decide (c < 0) = false := decide_eq_false hneg
      have HX := Lib.hid (show a * b = if c < 0 then -(a * b) else a * b from (if_neg hneg).symm)
      have HCD := Lib.hid (show c = ((D : Nat) : Int) by omega)
      have H0 := Lib.hid h0
      go_enter Try.func9, Try.ntmps9
      go_wp2_with fail
      go_at_call 38
      refine MD.out _ _ ?_
      intro w1 q r e hg1 hsp
      have SP := Lib.hid hsp
      have G1 := Lib.hid hg1
      clear hg1 hsp
      go_wp2_with fail
      go_at_call 42
      refine IA.out _ _ ?_
      intro r1 w2 hg2 hr2
      have G2 := Lib.hid (G1.out.tr hg2)
      have R1 := Lib.hid hr2
      clear hg2 hr2
      go_wp2_with fail
      go_at_call 42
      refine IB.out _ _ ?_
      intro r2 w3 hg3 hr3
      have G3 := Lib.hid (G2.out.tr hg3)
      have R1 := Lib.hid (R1.out.gr hg3)
      have R2 := Lib.hid hr3
      clear hg3 hr3
      go_wp2_with fail
      go_at_call 41
      refine mul_any _ _ 4 4 _ _ _ _ w3 R1.out R2.out (by omega) (by omega) ?_
      intro r3 w4 hg4 hr4
      obtain ⟨p1, A1, n1, c1, rfl⟩ := hr4.parts
      have G4 := Lib.hid (G3.out.tr hg4)
      have R3 := Lib.hid hr4.both
      clear hg4 hr4 R1 R2
      go_wp2_with fail
      have GA := Lib.hid ((Grow.refl w4).al (.cells #[.bool p1, .slice A1 n1 c1] 66))
      have X1 : Hid (NumBox (w4.alloc (.cells #[.bool p1, .slice A1 n1 c1] 66)) w4.heap.size p1 A1 n1 c1 (a * b) 8 (fun b => b < w4.heap.size)) := ⟨heap_alloc_new w4 _, (R3.out.gr GA.out).into fun b hb => hb.2⟩
      have SZ1 : Hid ((w4.alloc (.cells #[.bool p1, .slice A1 n1 c1] 66)).heap.size = w4.heap.size + 1) := World.size_alloc _ _
      generalize hB1 : w4.heap.size = B1 at *
      have HB1 := Lib.hid hB1
      generalize w4.alloc (.cells #[.bool p1, .slice A1 n1 c1] 66) = wa at *
      clear hB1
      go_at_call 42
      refine IC.out _ _ ?_
      intro r4 w5 hg5 hr5
      obtain ⟨p2, A2, n2, c2, rfl⟩ := hr5.parts
      have G5 := Lib.hid (G4.out.tr (GA.out.tr hg5))
      have X1 := Lib.hid (X1.out.gr hg5)
      have R5 := Lib.hid hr5.both
      have SZ5 := Lib.hid (show B1 + 1 ≤ w5.heap.size by have := hg5.size; have := SZ1.out; omega)
      have SZa := Lib.hid (show B1 + 1 ≤ wa.heap.size by have := SZ1.out; omega)
      have GW4 := Lib.hid (show w.heap.size ≤ B1 by have := G4.out.size; have := HB1.out; omega)
      clear hg5 hr5
      go_wp2_with fail
      have GB := Lib.hid ((Grow.refl w5).al (.cells #[.bool p2, .slice A2 n2 c2] 66))
      have X2 : Hid (NumBox (w5.alloc (.cells #[.bool p2, .slice A2 n2 c2] 66)) w5.heap.size p2 A2 n2 c2 c 4 (fun b => wa.heap.size ≤ b ∧ b < w5.heap.size)) := ⟨heap_alloc_new w5 _, R5.out.gr GB.out⟩
      have X1 := Lib.hid (X1.out.gr GB.out)
      have SZ6 : Hid ((w5.alloc (.cells #[.bool p2, .slice A2 n2 c2] 66)).heap.size = w5.heap.size + 1) := World.size_alloc _ _
      have G6 := Lib.hid (G5.out.tr GB.out)
      generalize hB2 : w5.heap.size = B2 at *
      generalize w5.alloc (.cells #[.bool p2, .slice A2 n2 c2] 66) = wb at *
      clear hB2
      have X1 : Hid (NumBox wb B1 p1 A1 n1 c1 (a * b) 8 (fun b => b < wb.heap.size ∧ b ≠ B1 ∧ b ≠ B2)) := ⟨X1.out.blk, X1.out.big.into fun b hb => by have := SZ5.out; have := SZ6.out; exact ⟨by omega, by omega, by omega⟩⟩
      have X2 : Hid (NumBox wb B2 p2 A2 n2 c2 c 4 (fun b => b < wb.heap.size ∧ b ≠ B1 ∧ b ≠ B2)) := ⟨X2.out.blk, X2.out.big.into fun b hb => by have := SZa.out; have := SZ6.out; exact ⟨by omega, by omega, by omega⟩⟩
      have NE := Lib.hid (show B1 ≠ B2 by have := SZ5.out; omega)
      have LB := Lib.hid (show B1 < wb.heap.size ∧ B2 < wb.heap.size ∧ w.heap.size ≤ B1 ∧ w.heap.size ≤ B2 by have := SZ5.out; have := SZ6.out; have := GW4.out; exact ⟨by omega, by omega, by omega, by omega⟩)
      clear R3 GA SZ1 HB1 R5 SZ5 SZa GW4 GB SZ6 G1 G2 G3 G4 G5
      have z0 := X1.out.c0
      have z1 := X1.out.c1
      have y0 := X2.out.c0
      have y1 := X2.out.c1
      rw [HCD.out] at X2
      have LAW := Lib.hid (md_law H0.out HD.out.symm HX.out SP.out)
      generalize a * b = x at X1 LAW
      go_wp2_with fail
      clear z0 z1 y0 y1 hneg t1 t0 h0 hD
      refine wp_region_free2 ⟨6, some 12, 66, #[.bool false, .slice none 0 0]⟩ ⟨7, some 13, 66, #[.bool false, .slice none 0 0]⟩ 8 [1, 4, 0, 2, 3, 5] (by kernel_rfl) (by kernel_rfl) (by decide) ⟨_, rfl, rfl, rfl, fun a W K h => by go_simp; exact h⟩ ⟨_, rfl, rfl, rfl, fun a W K h => by go_simp; exact h⟩ (by intro c a d v w h; cases d <;> exact h) rfl rfl ?_
      apply fr_take; exact rfl; (simp); (simp); (intro x1 x2; exact rfl)
      · intro x1 x2 W' hW
        have z0 := (X1.out.gr ((Grow.refl _).dr.tr hW)).c0
        have z1 := (X1.out.gr ((Grow.refl _).dr.tr hW)).c1
        have y0 := (X2.out.gr ((Grow.refl _).dr.tr hW)).c0
        have y1 := (X2.out.gr ((Grow.refl _).dr.tr hW)).c1
        clear hW
        simp only [FA.put2, Act.put, List.setIfInBounds_toArray, List.set_cons_zero, List.set_cons_succ]
        go_simp
        with_reducible rfl
      simp only [Act.put, List.setIfInBounds_toArray, List.set_cons_zero, List.set_cons_succ]
      apply fr_take; exact rfl; (simp); (simp); (intro x1 x2; exact rfl)
      · intro x1 x2 W' hW
        have z0 := (X1.out.gr ((Grow.refl _).dr.tr hW)).c0
        have z1 := (X1.out.gr ((Grow.refl _).dr.tr hW)).c1
        have y0 := (X2.out.gr ((Grow.refl _).dr.tr hW)).c0
        have y1 := (X2.out.gr ((Grow.refl _).dr.tr hW)).c1
        clear hW
        simp only [FA.put2, Act.put, List.setIfInBounds_toArray, List.set_cons_zero, List.set_cons_succ]
        go_simp
        with_reducible rfl
      simp only [Act.put, List.setIfInBounds_toArray, List.set_cons_zero, List.set_cons_succ]
      apply fr_turn; exact rfl; exact rfl; (simp); (simp); (intro x1 x2; exact rfl)
      intro x1 x2 v1 hW K hK
      simp only [FA.put2, Act.put, List.setIfInBounds_toArray, List.set_cons_zero, List.set_cons_succ]
      go_simp
      go_at_call 42
      refine int_any (-9223372036854775808) _ (by constructor <;> omega) ?_
      intro r1 v2 hg2 hr2
      have H1 := Lib.hid ((Grow.refl _).dr.tr (hW.tr hg2))
      have R1 := Lib.hid hr2
      refine hK.out _ _ hg2 ?_
      clear hK hg2 hr2 hW
      simp only [Act.put, List.setIfInBounds_toArray, List.set_cons_zero, List.set_cons_succ]
      apply fr_turn; exact rfl; exact rfl; (simp); (simp); (intro x1 x2; exact rfl)
      intro x1 x2 v3 hW K hK
      simp only [FA.put2, Act.put, List.setIfInBounds_toArray, List.set_cons_zero, List.set_cons_succ]
      go_simp
      go_at_call 41
      refine mul_any _ _ 4 4 _ _ _ _ v3 (R1.out.gr hW) (X2.out.big.gr (H1.out.tr hW)) (by omega) (by omega) ?_
      intro r3 v4 hg4 hr4
      obtain ⟨pl, Al, nl, cl, rfl⟩ := hr4.parts
      have H2 := Lib.hid (H1.out.tr (hW.tr hg4))
      have RL := Lib.hid hr4.both
      refine hK.out _ _ hg4 ?_
      clear hK hg4 hr4 hW
      simp only [Act.put, List.setIfInBounds_toArray, List.set_cons_zero, List.set_cons_succ]
      apply fr_turn; exact rfl; exact rfl; (simp); (simp); (intro x1 x2; exact rfl)
      intro x1 x2 v5 hW K hK
      simp only [FA.put2, Act.put, List.setIfInBounds_toArray, List.set_cons_zero, List.set_cons_succ]
      go_simp
      go_at_call 44
      refine two_any 0 9223372036854775808 v5 (by omega) (by omega) ?_
      intro r5 v6 hg6 hr6
      rw [show (((0 : Nat) : Int) * 18446744073709551616 + ((9223372036854775808 : Nat) : Int)) = 9223372036854775808 by decide] at hr6
      have H3 := Lib.hid (H2.out.tr (hW.tr hg6))
      have RL := Lib.hid (RL.out.gr (hW.tr hg6))
      have R5 := Lib.hid hr6
      refine hK.out _ _ hg6 ?_
      clear hK hg6 hr6 hW
      simp only [Act.put, List.setIfInBounds_toArray, List.set_cons_zero, List.set_cons_succ]
      apply fr_turn; exact rfl; exact rfl; (simp); (simp); (intro x1 x2; exact rfl)
      intro x1 x2 v7 hW K hK
      simp only [FA.put2, Act.put, List.setIfInBounds_toArray, List.set_cons_zero, List.set_cons_succ]
      go_simp
      go_at_call 41
      refine mul_any _ _ 13 4 _ _ _ _ v7 (R5.out.gr hW) (X2.out.big.gr (H3.out.tr hW)) (by omega) (by omega) ?_
      intro r7 v8 hg8 hr8
      obtain ⟨ph, Ah, nh, ch, rfl⟩ := hr8.parts
      have H4 := Lib.hid (H3.out.tr (hW.tr hg8))
      have RL := Lib.hid (RL.out.gr (hW.tr hg8))
      have RH := Lib.hid hr8.both
      refine hK.out _ _ hg8 ?_
      clear hK hg8 hr8 hW
      simp only [Act.put, List.setIfInBounds_toArray, List.set_cons_zero, List.set_cons_succ]
      refine fr_nil ?_
      intro b1 b2 V hV hne hb1 hb2
      obtain ⟨hb11, hb12, hb13⟩ := hb1
      obtain ⟨hb21, hb22, hb23⟩ := hb2
      have i1 := hb13 (v3.heap.size, v4.heap.size) (by simp)
      have i2 := hb23 (v3.heap.size, v4.heap.size) (by simp)
      have i3 := hb13 (v7.heap.size, v8.heap.size) (by simp)
      have i4 := hb23 (v7.heap.size, v8.heap.size) (by simp)
      dsimp only at i1 i2 i3 i4
      obtain ⟨lb1, lb2, lb3, lb4⟩ := LB.out
      have NL1 : Hid (∀ b, v3.heap.size ≤ b ∧ b < v4.heap.size → b ≠ b1 ∧ b ≠ b2) := fun b hb => ⟨by omega, by omega⟩
      have NH1 : Hid (∀ b, v7.heap.size ≤ b ∧ b < v8.heap.size → b ≠ b1 ∧ b ≠ b2) := fun b hb => ⟨by omega, by omega⟩
      have NB : Hid (B1 ≠ b1 ∧ B1 ≠ b2 ∧ B2 ≠ b1 ∧ B2 ≠ b2) := ⟨by omega, by omega, by omega, by omega⟩
      have NS : Hid (∀ b, b < wb.heap.size ∧ b ≠ B1 ∧ b ≠ B2 → b ≠ b1 ∧ b ≠ b2) := fun b hb => ⟨by omega, by omega⟩
      have HV := Lib.hid (H4.out.tr hV)
      have RL := Lib.hid (RL.out.gr hV)
      have RH := Lib.hid (RH.out.gr hV)
      have X1 := Lib.hid (X1.out.gr HV.out)
      have X2 := Lib.hid (X2.out.gr HV.out)
      have F2 := (st2_other (W := V) (c := b2) (b := b1) hne.symm (.bool pl) (.slice Al nl cl)).trans hb21
      have F1 := hb11
      obtain ⟨V2, hV2⟩ : ∃ V2, V2 = st2 (st2 V b1 (.bool pl) (.slice Al nl cl)) b2 (.bool ph) (.slice Ah nh ch) := ⟨_, rfl⟩
      have Y1 := Lib.hid ((X1.out.st2 NB.out.1 (fun b hb => (NS.out b hb).1) (.bool pl) (.slice Al nl cl)).st2 NB.out.2.1 (fun b hb => (NS.out b hb).2) (.bool ph) (.slice Ah nh ch))
      rw [← hV2] at Y1
      have Y2 := Lib.hid ((X2.out.st2 NB.out.2.2.1 (fun b hb => (NS.out b hb).1) (.bool pl) (.slice Al nl cl)).st2 NB.out.2.2.2 (fun b hb => (NS.out b hb).2) (.bool ph) (.slice Ah nh ch))
      rw [← hV2] at Y2
      have YL : Hid (NumBox V2 b1 pl Al nl cl (-9223372036854775808 * (D : Int)) 8 (fun b => v3.heap.size ≤ b ∧ b < v4.heap.size)) := by
        subst hV2
        exact ⟨(st2_other hne _ _).trans (st2_same hb11 _ _), (RL.out.st2 (fun b hb => (NL1.out b hb).1) _ _).st2 (fun b hb => (NL1.out b hb).2) _ _⟩
      have YH : Hid (NumBox V2 b2 ph Ah nh ch (9223372036854775808 * (D : Int)) 17 (fun b => v7.heap.size ≤ b ∧ b < v8.heap.size)) := by
        subst hV2
        exact ⟨st2_same F2 _ _, (RH.out.st2 (fun b hb => (NH1.out b hb).1) _ _).st2 (fun b hb => (NH1.out b hb).2) _ _⟩
      have SZV : Hid (wb.heap.size ≤ V2.heap.size) := by
        subst hV2
        show wb.heap.size ≤ _
        have := HV.out.size
        simp only [st2, size_setCell]
        exact this
      have GV2 : Hid (Grow w V2) := by
        subst hV2
        exact ((G6.out.tr HV.out).st2 (by omega) _ _).st2 (by omega) _ _
      simp only [st2] at F2 hV2
      simp only [FA.put2, ptrTo, Act.put, List.setIfInBounds_toArray, List.set_cons_zero, List.set_cons_succ]
      simp only [List.drop_succ_cons, List.drop_zero]
      have c0 := cell_of_row _ b1 0 _ _ (0, 0) F1
      have f0 := frozen_of_row _ b1 0 _ _ F1
      have g1 := blk_set F1 0 (.bool pl)
      have c1 := cell_of_row _ b1 1 _ _ (0, 0) g1
      have f1 := frozen_of_row _ b1 1 _ _ g1
      have d0 := cell_of_row _ b2 0 _ _ (0, 0) F2
      have e0 := frozen_of_row _ b2 0 _ _ F2
      have g2 := blk_set F2 0 (.bool ph)
      have d1 := cell_of_row _ b2 1 _ _ (0, 0) g2
      have e1 := frozen_of_row _ b2 1 _ _ g2
      have z0 := Y1.out.c0
      have z1 := Y1.out.c1
      have y0 := Y2.out.c0
      have y1 := Y2.out.c1
      have l0 := YL.out.c0
      have l1 := YL.out.c1
      have m0 := YH.out.c0
      have m1 := YH.out.c1
      simp only [List.setIfInBounds_toArray, List.set_cons_zero] at c0 c1 d0 d1
      clear g1 g2 F1 F2 hb11 hb12 hb13 hb21 hb22 hb23 i1 i2 i3 i4 hne hV lb1 lb2 lb3 lb4
      rw [hV2] at z0 z1 y0 y1 l0 l1 m0 m1
      go_wp2_with fail
      rw [← hV2]
      clear c0 f0 c1 f1 d0 e0 d1 e1 z0 z1 y0 y1 l0 l1 m0 m1 hV2
      have C1 := Lib.hid fun (R : Ending → World → Prop) hR => cmp_any x (-9223372036854775808 * (D : Int)) 8 8 _ _ _ _ V2 Y1.out.big YL.out.big (by omega) (by omega) (R := R) hR
      have C2 := Lib.hid fun W (g : Grow V2 W) (R : Ending → World → Prop) hR => cmp_any x (9223372036854775808 * (D : Int)) 8 17 _ _ _ _ W (Y1.out.big.gr g) (YH.out.big.gr g) (by omega) (by omega) (R := R) hR
      obtain ⟨s1, hs1⟩ : ∃ s1, (x - -9223372036854775808 * (D : Int)).sign = s1 := ⟨_, rfl⟩
      obtain ⟨s2, hs2⟩ : ∃ s2, (x - 9223372036854775808 * (D : Int)).sign = s2 := ⟨_, rfl⟩
      rw [hs1] at C1
      rw [hs2] at C2
      have q1 : s1 < 0 ↔ x < -9223372036854775808 * (D : Int) := by
        rw [← hs1, ← sgnC]
        unfold cmpI'
        split <;> (try split) <;> omega
      have q2 : 0 ≤ s2 ↔ 9223372036854775808 * (D : Int) ≤ x := by
        rw [← hs2, ← sgnC]
        unfold cmpI'
        split <;> (try split) <;> omega
      clear hs1 hs2
      have GA2 : Hid (∀ W, Grow V2 W → Grow w W) := fun W h => GV2.out.tr h
      refine C1.out _ ?_
      intro V3 hV3
      have HV3 := Lib.hid hV3
      clear hV3 C1
      by_cases hlow : x < -9223372036854775808 * (D : Int)
      · obtain ⟨rfl, rfl, rfl⟩ := LAW.out.1 (Or.inl hlow)
        have u1 : decide (s1 < 0) = true := decide_eq_true (q1.2 hlow)
        clear q1 q2 hlow LAW
        go_wp2_with fail
        go_at_call 39
        refine code22_any _ _ ?_
        go_wp2_with fail
        go_at_call 40
        refine live22_any _ ?_
        intro w99 hg99
        have HG99 := Lib.hid hg99
        clear hg99
        go_wp2
        exact HR.out _ ((GA2.out _ HV3.out).tr HG99.out)
      · have u1 : decide (s1 < 0) = false := decide_eq_false fun h => hlow (q1.1 h)
        have z0 := (Y1.out.gr HV3.out).c0
        have z1 := (Y1.out.gr HV3.out).c1
        have m0 := (YH.out.gr HV3.out).c0
        have m1 := (YH.out.gr HV3.out).c1
        by_cases hhigh : 9223372036854775808 * (D : Int) ≤ x
        · obtain ⟨rfl, rfl, rfl⟩ := LAW.out.1 (Or.inr hhigh)
          have u2 : decide (0 ≤ s2) = true := decide_eq_true (q2.2 hhigh)
          clear q1 q2 hlow hhigh LAW
          go_wp2_with fail
          go_at_call 45
          refine C2.out _ HV3.out _ ?_
          intro V4 hV4
          have HV4 := Lib.hid (HV3.out.tr hV4)
          clear hV4 z0 z1 m0 m1
          go_wp2_with fail
          go_at_call 39
          refine code22_any _ _ ?_
          go_wp2_with fail
          go_at_call 40
          refine live22_any _ ?_
          intro w99 hg99
          have HG99 := Lib.hid hg99
          clear hg99
          go_wp2
          exact HR.out _ ((GA2.out _ HV4.out).tr HG99.out)
        · have u2 : decide (0 ≤ s2) = false := decide_eq_false fun h => hhigh (q2.1 h)
          obtain ⟨rfl, le, lr, li⟩ := LAW.out.2 (fun h => h.elim hlow hhigh)
          have LE := Lib.hid le
          have LR := Lib.hid lr
          have LI := Lib.hid li
          clear q1 q2 hlow hhigh LAW le lr li
          go_wp2_with fail
          go_at_call 45
          refine C2.out _ HV3.out _ ?_
          intro V4 hV4
          have HV4 := Lib.hid (HV3.out.tr hV4)
          have Y1 := Lib.hid (Y1.out.gr HV4.out)
          have Y2 := Lib.hid (Y2.out.gr HV4.out)
          have G4 := Lib.hid (GA2.out _ HV4.out)
          have SB3 := Lib.hid (show wb.heap.size ≤ V4.heap.size by have := HV4.out.size; have := SZV.out; omega)
          have SB := Lib.hid (show B2 < V4.heap.size by have := lt_of_block Y2.out.blk; exact this)
          clear hV4 z0 z1 m0 m1 C2 YL YH HV3 HV4 GA2
          go_wp2_with fail
          clear u1 u2
          refine wp_region_free1 ⟨6, some 14, 66, #[.bool false, .slice none 0 0]⟩ 7 [0, 1, 3, 2, 4, 5] (by kernel_rfl) (by kernel_rfl) ?_ (by intro c a d v w h; cases d <;> exact h) rfl ?_
          · exact ⟨_, rfl, rfl, rfl, fun a W K h => by go_simp; exact h⟩
          apply fr1_take; exact rfl; (simp); (intro x1; exact rfl)
          · intro x1 W' hW
            have z0 := (Y1.out.gr ((Grow.refl _).dr.tr hW)).c0
            have z1 := (Y1.out.gr ((Grow.refl _).dr.tr hW)).c1
            have y0 := (Y2.out.gr ((Grow.refl _).dr.tr hW)).c0
            have y1 := (Y2.out.gr ((Grow.refl _).dr.tr hW)).c1
            clear hW
            simp only [Act.put, List.setIfInBounds_toArray, List.set_cons_zero, List.set_cons_succ]
            go_simp
            with_reducible rfl
          simp only [Act.put, List.setIfInBounds_toArray, List.set_cons_zero, List.set_cons_succ]
          apply fr1_take; exact rfl; (simp); (intro x1; exact rfl)
          · intro x1 W' hW
            have z0 := (Y1.out.gr ((Grow.refl _).dr.tr hW)).c0
            have z1 := (Y1.out.gr ((Grow.refl _).dr.tr hW)).c1
            have y0 := (Y2.out.gr ((Grow.refl _).dr.tr hW)).c0
            have y1 := (Y2.out.gr ((Grow.refl _).dr.tr hW)).c1
            clear hW
            simp only [Act.put, List.setIfInBounds_toArray, List.set_cons_zero, List.set_cons_succ]
            go_simp
            with_reducible rfl
          simp only [Act.put, List.setIfInBounds_toArray, List.set_cons_zero, List.set_cons_succ]
          apply fr1_take; exact rfl; (simp); (intro x1; exact rfl)
          · intro x1 W' hW
            have z0 := (Y1.out.gr ((Grow.refl _).dr.tr hW)).c0
            have z1 := (Y1.out.gr ((Grow.refl _).dr.tr hW)).c1
            have y0 := (Y2.out.gr ((Grow.refl _).dr.tr hW)).c0
            have y1 := (Y2.out.gr ((Grow.refl _).dr.tr hW)).c1
            clear hW
            simp only [Act.put, List.setIfInBounds_toArray, List.set_cons_zero, List.set_cons_succ]
            go_simp
            with_reducible rfl
          simp only [Act.put, List.setIfInBounds_toArray, List.set_cons_zero, List.set_cons_succ]
          apply fr1_turn; exact rfl; exact rfl; (simp); (intro x1; exact rfl)
          intro x1 k1 hW K hK
          simp only [Act.put, List.setIfInBounds_toArray, List.set_cons_zero, List.set_cons_succ]
          go_simp
          go_at_call 42
          refine int_any q _ LI.out ?_
          intro rq k2 hg2 hr2
          have J1 := Lib.hid ((Grow.refl _).dr.tr (hW.tr hg2))
          have RQ := Lib.hid hr2
          refine hK.out _ _ hg2 ?_
          clear hK hg2 hr2 hW
          simp only [Act.put, List.setIfInBounds_toArray, List.set_cons_zero, List.set_cons_succ]
          apply fr1_turn; exact rfl; exact rfl; (simp); (intro x1; exact rfl)
          intro x1 k3 hW K hK
          simp only [Act.put, List.setIfInBounds_toArray, List.set_cons_zero, List.set_cons_succ]
          go_simp
          go_at_call 41
          refine mul_any _ _ 4 4 _ _ _ _ k3 (RQ.out.gr hW) (Y2.out.big.gr (J1.out.tr hW)) (by omega) (by omega) ?_
          intro rm k4 hg4 hr4
          have J2 := Lib.hid (J1.out.tr (hW.tr hg4))
          have RM := Lib.hid hr4
          refine hK.out _ _ hg4 ?_
          clear hK hg4 hr4 hW
          simp only [Act.put, List.setIfInBounds_toArray, List.set_cons_zero, List.set_cons_succ]
          apply fr1_turn; exact rfl; exact rfl; (simp); (intro x1; exact rfl)
          intro x1 k5 hW K hK
          simp only [Act.put, List.setIfInBounds_toArray, List.set_cons_zero, List.set_cons_succ]
          go_simp
          go_at_call 46
          refine sub_any _ _ 8 8 _ _ _ _ k5 (Y1.out.big.gr (J2.out.tr hW)) (RM.out.gr hW) (by omega) (by omega) ?_
          intro rs k6 hg6 hr6
          rw [LE.out] at hr6
          obtain ⟨ps, As, ns, cs, rfl⟩ := hr6.parts
          have J3 := Lib.hid (J2.out.tr (hW.tr hg6))
          have RS := Lib.hid hr6.both
          refine hK.out _ _ hg6 ?_
          clear hK hg6 hr6 hW
          simp only [Act.put, List.setIfInBounds_toArray, List.set_cons_zero, List.set_cons_succ]
          refine fr1_nil ?_
          intro b3 U hU hb3
          obtain ⟨hb31, hb32, hb33⟩ := hb3
          have i1 := hb33 (k5.heap.size, k6.heap.size) (by simp)
          dsimp only at i1
          have NR : Hid (∀ b, k5.heap.size ≤ b ∧ b < k6.heap.size → b ≠ b3) := fun b hb => by omega
          have N2 := Lib.hid (show B2 ≠ b3 by have := SB.out; omega)
          have N3 := Lib.hid (show w.heap.size ≤ b3 by have := G4.out.size; omega)
          have HU := Lib.hid (J3.out.tr hU)
          have RS := Lib.hid (RS.out.gr hU)
          have Y2 := Lib.hid (Y2.out.gr HU.out)
          have F3 := hb31
          obtain ⟨U2, hU2⟩ : ∃ U2, U2 = st2 U b3 (.bool ps) (.slice As ns cs) := ⟨_, rfl⟩
          have Y2 := Lib.hid (Y2.out.st2 N2.out (fun b hb => by have := SB3.out; have := hb.1; omega) (.bool ps) (.slice As ns cs))
          rw [← hU2] at Y2
          have YR : Hid (NumBox U2 b3 ps As ns cs ((r : Nat) : Int) 9 (fun b => k5.heap.size ≤ b ∧ b < k6.heap.size)) := by
            subst hU2
            exact ⟨st2_same hb31 _ _, RS.out.st2 (fun b hb => NR.out b hb) _ _⟩
          have GU2 : Hid (Grow w U2) := by
            subst hU2
            exact (G4.out.tr HU.out).st2 N3.out _ _
          simp only [st2] at hU2
          simp only [ptrTo, Act.put, List.setIfInBounds_toArray, List.set_cons_zero, List.set_cons_succ]
          simp only [List.drop_succ_cons, List.drop_zero]
          have c0 := cell_of_row _ b3 0 _ _ (0, 0) F3
          have f0 := frozen_of_row _ b3 0 _ _ F3
          have g1 := blk_set F3 0 (.bool ps)
          have c1 := cell_of_row _ b3 1 _ _ (0, 0) g1
          have f1 := frozen_of_row _ b3 1 _ _ g1
          simp only [List.setIfInBounds_toArray, List.set_cons_zero] at c0 c1
          clear g1 F3 hb31 hb32 hb33 i1 hU
          go_wp2_with fail
          rw [← hU2]
          clear c0 f0 c1 f1 hU2
          have CD := Lib.hid fun W (g : Grow U2 W) (R : Ending → World → Prop) hR => cmp_any ((r : Nat) : Int) (D : Int) 9 4 _ _ _ _ W (YR.out.big.gr g) (Y2.out.big.gr g) (by omega) (by omega) (R := R) hR
          rw [Int.sign_eq_neg_one_of_neg (show ((r : Nat) : Int) - (D : Int) < 0 by have := LR.out; omega)] at CD
          have hr64 := Lib.hid (show r < 18446744073709551616 by
            have h1 := LR.out
            have h2 := HD.out
            have h3 := HC.out
            unfold I64 at h3
            omega)
          refine wp_region_lexT (Grow U2) ((Grow.refl U2).dr) 13 [0, 1, 2, 3, 4, 5, 6, 7, 8, 9, 10, 11, 12] (by kernel_rfl) (by kernel_rfl) (by intro c a d v w h; cases d <;> exact h) ?_
          iterate 1 (apply lext_take; exact rfl; exact rfl; (intro W hW; (try clear hW); go_simp; with_reducible rfl); try simp only [Act.put, List.setIfInBounds_toArray, List.set_cons_zero, List.set_cons_succ])
          apply lext_turn; exact rfl; exact rfl; exact rfl; intro K hK; go_simp; go_at_call 39; refine code22_any _ _ ?_; refine hK.out _ _ (Grow.refl U2).dr ?_; clear hK
          try simp only [Act.put, List.setIfInBounds_toArray, List.set_cons_zero, List.set_cons_succ]
          iterate 4 (apply lext_take; exact rfl; exact rfl; (intro W hW; have z0 := (YR.out.gr hW).c0; have z1 := (YR.out.gr hW).c1; have y0 := (Y2.out.gr hW).c0; have y1 := (Y2.out.gr hW).c1; (try clear hW); go_simp; with_reducible rfl); try simp only [Act.put, List.setIfInBounds_toArray, List.set_cons_zero, List.set_cons_succ])
          apply lext_turn; exact rfl; exact rfl; exact rfl; intro K hK; go_simp; go_at_call 47; refine word_any r _ hr64.out ?_; intro rw1 j1 hg1 hr1
          have J1' := Lib.hid ((Grow.refl U2).dr.tr hg1)
          have RW := Lib.hid hr1
          refine hK.out _ _ J1'.out ?_
          clear hK hg1 hr1
          try simp only [Act.put, List.setIfInBounds_toArray, List.set_cons_zero, List.set_cons_succ]
          apply lext_turn; exact rfl; exact rfl; exact rfl; intro K hK; go_simp; go_at_call 45; refine cmp_any ((r : Nat) : Int) ((r : Nat) : Int) 9 4 _ _ _ _ j1 (YR.out.big.gr J1'.out) RW.out (by omega) (by omega) ?_; rw [Int.sub_self, Int.sign_zero]; intro j2 hg2
          have J2' := Lib.hid (J1'.out.tr hg2)
          refine hK.out _ _ J2'.out ?_
          clear hK hg2
          try simp only [Act.put, List.setIfInBounds_toArray, List.set_cons_zero, List.set_cons_succ]
          iterate 5 (apply lext_take; exact rfl; exact rfl; (intro W hW; have z0 := (YR.out.gr hW).c0; have z1 := (YR.out.gr hW).c1; have y0 := (Y2.out.gr hW).c0; have y1 := (Y2.out.gr hW).c1; (try clear hW); go_simp; with_reducible rfl); try simp only [Act.put, List.setIfInBounds_toArray, List.set_cons_zero, List.set_cons_succ])
          refine lext_nil ?_
          simp only [List.drop_succ_cons, List.drop_zero]
          go_wp2_with fail
          go_at_call 45
          refine CD.out _ J2'.out _ ?_
          intro j3 hg3
          have J3' := Lib.hid (GU2.out.tr (J2'.out.tr hg3))
          clear hg3
          go_wp2_with fail
          go_at_call 40
          refine live22_any _ ?_
          intro w99 hg99
          have HG99 := Lib.hid hg99
          clear hg99
          go_wp2
          exact HR.out _ ((J3'.out).tr HG99.out)
end Go.Proofs.Ythgibnmnjoniiaa
