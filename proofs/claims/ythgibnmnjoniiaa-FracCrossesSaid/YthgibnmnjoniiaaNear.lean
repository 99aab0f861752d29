/-
  portolanref23.Near; frac.Cmp.
-/
import Derived.Test.YthgibnmnjoniiaaChecked
import Derived.Test.YthgibnmnjoniiaaRatO
import Derived.Test.YthgibnmnjoniiaaTimes
namespace Go.Proofs.Ythgibnmnjoniiaa
open Go.RowKit Go.Lib B

/-- a box that holds a fraction -/
structure RatBox (W : World) (b : Nat) (p : Bool) (A : Option Addr) (x c : Nat) (p' : Bool) (A' : Option Addr) (x' c' : Nat) (n d : Int) (k j : Nat) (S : Nat → Prop) : Prop where
  blk : W.heap[b]? = some (.cells #[.bool p, .slice A x c, .bool p', .slice A' x' c'] 86 (0, 0))
  num : BigR W S (.agg #[.bool p, .slice A x c]) n k
  den : BigR W S (.agg #[.bool p', .slice A' x' c']) d j
section
variable {W W' : World} {b : Nat} {p : Bool} {A : Option Addr} {x c : Nat} {p' : Bool} {A' : Option Addr} {x' c' : Nat} {n d : Int} {k j : Nat} {S : Nat → Prop}
theorem RatBox.gr (h : RatBox W b p A x c p' A' x' c' n d k j S) (hg : Grow W W') : RatBox W' b p A x c p' A' x' c' n d k j S := ⟨grow_blk hg h.blk, h.num.gr hg, h.den.gr hg⟩
theorem RatBox.st4 (h : RatBox W b p A x c p' A' x' c' n d k j S) {b' : Nat} (hne : b ≠ b') (hS : ∀ x, S x → x ≠ b') (u0 u1 u2 u3 : Value) : RatBox (st4 W b' u0 u1 u2 u3) b p A x c p' A' x' c' n d k j S :=
  ⟨(st4_other hne u0 u1 u2 u3).trans h.blk, h.num.st4 hS u0 u1 u2 u3, h.den.st4 hS u0 u1 u2 u3⟩
theorem RatBox.c0 (h : RatBox W b p A x c p' A' x' c' n d k j S) : W.cell? ⟨b, 0, none⟩ = some (.bool p) := cell_of_row _ b 0 _ _ (0, 0) h.blk
theorem RatBox.c1 (h : RatBox W b p A x c p' A' x' c' n d k j S) : W.cell? ⟨b, 1, none⟩ = some (.slice A x c) := cell_of_row _ b 1 _ _ (0, 0) h.blk
theorem RatBox.c2 (h : RatBox W b p A x c p' A' x' c' n d k j S) : W.cell? ⟨b, 2, none⟩ = some (.bool p') := cell_of_row _ b 2 _ _ (0, 0) h.blk
theorem RatBox.c3 (h : RatBox W b p A x c p' A' x' c' n d k j S) : W.cell? ⟨b, 3, none⟩ = some (.slice A' x' c') := cell_of_row _ b 3 _ _ (0, 0) h.blk
theorem RatBox.rat (h : RatBox W b p A x c p' A' x' c' n d k j S) : RatR W S (.agg #[.bool p, .slice A x c, .bool p', .slice A' x' c']) n d k j := ⟨_, _, _, _, _, _, _, _, rfl, h.num, h.den⟩
end


set_option maxRecDepth 100000 in
set_option maxHeartbeats 8000000 in
theorem near_any (m n d : Int) (k j : Nat) (v : Value) (S : Nat → Prop) (w : World) (hm : I64 m) (hv : RatR w S v n d k j) (hk : k ≤ 100) (hj : j ≤ 100) {R : Ending → World → Prop}
    (hR : ∀ w', Grow w w' → R (.returned (.bool (decide (((m * 2 + -1 * 1) * d - n * (1 * 2)).sign ≤ 0) && decide ((n * (1 * 2) - (m * 2 + 1 * 1) * d).sign < 0)))) w') :
    Calls Try.prog 70 #[.int .i64 m, v] w R := by
  have HR := Lib.hid hR
  clear hR
  obtain ⟨p, A, x, c, p', A', x', c', rfl, hv1, hv2⟩ := hv
  have HV := Lib.hid (show RatR w S (.agg #[.bool p, .slice A x c, .bool p', .slice A' x' c']) n d k j from ⟨_, _, _, _, _, _, _, _, rfl, hv1, hv2⟩)
  clear hv1 hv2
  obtain ⟨w0, hw0⟩ : ∃ w0, w0 = w.alloc (.cells #[.bool p, .slice A x c, .bool p', .slice A' x' c'] 86) := ⟨_, rfl⟩
  have G0 : Hid (Grow w w0) := by subst hw0; exact (Grow.refl w).al _
  have X0 : Hid (RatBox w0 w.heap.size p A x c p' A' x' c' n d k j (fun b => b < w.heap.size)) := by
    subst hw0
    obtain ⟨_, _, _, _, _, _, _, _, e, h1, h2⟩ := HV.out.both
    simp only [Value.agg.injEq, Array.mk.injEq, List.cons.injEq, Value.bool.injEq, Value.slice.injEq, and_true] at e
    obtain ⟨rfl, ⟨rfl, rfl, rfl⟩, rfl, rfl, rfl, rfl⟩ := e
    exact ⟨heap_alloc_new w _, (h1.gr ((Grow.refl w).al _)).into fun b hb => hb.2, (h2.gr ((Grow.refl w).al _)).into fun b hb => hb.2⟩
  have S0 : Hid (w0.heap.size = w.heap.size + 1) := by subst hw0; exact World.size_alloc _ _
  go_enter Try.func70, Try.ntmps70
  go_wp2_with fail
  rw [← hw0]
  clear hw0
  go_at_call 47
  refine word_any 1 _ (by omega) ?_
  intro r1 w1 hg1 hr1
  obtain ⟨p1, A1, n1, c1, rfl⟩ := hr1.parts
  have G1 := Lib.hid hg1
  have R1 := Lib.hid hr1
  clear hg1 hr1
  go_wp2_with fail
  go_at_call 47
  refine word_any 2 _ (by omega) ?_
  intro r2 w2 hg2 hr2
  obtain ⟨p2, A2, n2, c2, rfl⟩ := hr2.parts
  have G2 := Lib.hid (G1.out.tr hg2)
  have R1 := Lib.hid (R1.out.gr hg2).both
  have R2 := Lib.hid hr2.both
  clear hg2 hr2
  go_wp2_with fail
  obtain ⟨wb, hwb⟩ : ∃ wb, wb = w2.alloc (.cells #[.bool p1, .slice A1 n1 c1, .bool p2, .slice A2 n2 c2] 86) := ⟨_, rfl⟩
  have GB : Hid (Grow w2 wb) := by subst hwb; exact (Grow.refl w2).al _
  have XH : Hid (RatBox wb w2.heap.size p1 A1 n1 c1 p2 A2 n2 c2 ((1 : Nat) : Int) ((2 : Nat) : Int) 4 4 (fun b => b < wb.heap.size)) := by
    subst hwb
    exact ⟨heap_alloc_new w2 _, (R1.out.gr ((Grow.refl w2).al _)).into fun b hb => by rw [World.size_alloc]; omega, (R2.out.gr ((Grow.refl w2).al _)).into fun b hb => by rw [World.size_alloc]; omega⟩
  rw [← hwb]
  clear hwb
  have X0 := Lib.hid (X0.out.gr (G2.out.tr GB.out))
  have GW := Lib.hid (G0.out.tr (G2.out.tr GB.out))
  have LB := Lib.hid (show w.heap.size + 1 ≤ wb.heap.size by have := (G2.out.tr GB.out).size; have := S0.out; omega)
  refine wp_region_free2 ⟨8, some 6, 86, #[.bool false, .slice none 0 0, .bool false, .slice none 0 0]⟩ ⟨9, some 7, 86, #[.bool false, .slice none 0 0, .bool false, .slice none 0 0]⟩ 10 [0, 2, 4, 6, 1, 3, 5, 7] (by kernel_rfl) (by kernel_rfl) (by decide) ?_ ?_ (by intro c a d v w h; cases d <;> exact h) rfl rfl ?_
  · exact ⟨_, rfl, rfl, rfl, fun a W K h => by go_simp; exact h⟩
  · exact ⟨_, rfl, rfl, rfl, fun a W K h => by go_simp; exact h⟩
  apply fr_take; exact rfl; (simp); (simp); (intro x1 x2; exact rfl)
  · intro x1 x2 W' hW
    have z0 := (XH.out.gr ((Grow.refl _).dr.tr hW)).c0
    have z1 := (XH.out.gr ((Grow.refl _).dr.tr hW)).c1
    have z2 := (XH.out.gr ((Grow.refl _).dr.tr hW)).c2
    have z3 := (XH.out.gr ((Grow.refl _).dr.tr hW)).c3
    clear hW
    simp only [FA.put2, Act.put, List.setIfInBounds_toArray, List.set_cons_zero, List.set_cons_succ]
    go_simp
    with_reducible rfl
  simp only [Act.put, List.setIfInBounds_toArray, List.set_cons_zero, List.set_cons_succ]
  apply fr_take; exact rfl; (simp); (simp); (intro x1 x2; exact rfl)
  · intro x1 x2 W' hW
    have z0 := (XH.out.gr ((Grow.refl _).dr.tr hW)).c0
    have z1 := (XH.out.gr ((Grow.refl _).dr.tr hW)).c1
    have z2 := (XH.out.gr ((Grow.refl _).dr.tr hW)).c2
    have z3 := (XH.out.gr ((Grow.refl _).dr.tr hW)).c3
    clear hW
    simp only [FA.put2, Act.put, List.setIfInBounds_toArray, List.set_cons_zero, List.set_cons_succ]
    go_simp
    with_reducible rfl
  simp only [Act.put, List.setIfInBounds_toArray, List.set_cons_zero, List.set_cons_succ]
  apply fr_take; exact rfl; (simp); (simp); (intro x1 x2; exact rfl)
  · intro x1 x2 W' hW
    have z0 := (XH.out.gr ((Grow.refl _).dr.tr hW)).c0
    have z1 := (XH.out.gr ((Grow.refl _).dr.tr hW)).c1
    have z2 := (XH.out.gr ((Grow.refl _).dr.tr hW)).c2
    have z3 := (XH.out.gr ((Grow.refl _).dr.tr hW)).c3
    clear hW
    simp only [FA.put2, Act.put, List.setIfInBounds_toArray, List.set_cons_zero, List.set_cons_succ]
    go_simp
    with_reducible rfl
  simp only [Act.put, List.setIfInBounds_toArray, List.set_cons_zero, List.set_cons_succ]
  apply fr_take; exact rfl; (simp); (simp); (intro x1 x2; exact rfl)
  · intro x1 x2 W' hW
    have z0 := (XH.out.gr ((Grow.refl _).dr.tr hW)).c0
    have z1 := (XH.out.gr ((Grow.refl _).dr.tr hW)).c1
    have z2 := (XH.out.gr ((Grow.refl _).dr.tr hW)).c2
    have z3 := (XH.out.gr ((Grow.refl _).dr.tr hW)).c3
    clear hW
    simp only [FA.put2, Act.put, List.setIfInBounds_toArray, List.set_cons_zero, List.set_cons_succ]
    go_simp
    with_reducible rfl
  simp only [Act.put, List.setIfInBounds_toArray, List.set_cons_zero, List.set_cons_succ]
  apply fr_turn; exact rfl; exact rfl; (simp); (simp); (intro x1 x2; exact rfl)
  intro x1 x2 v1 hW K hK
  simp only [FA.put2, Act.put, List.setIfInBounds_toArray, List.set_cons_zero, List.set_cons_succ]
  go_simp
  go_at_call 69
  refine whole_any m _ hm ?_
  intro r3 v2 hg3 hr3
  have H1 := Lib.hid ((Grow.refl _).dr.tr (hW.tr hg3))
  have R3 := Lib.hid hr3
  refine hK.out _ _ hg3 ?_
  clear hK hg3 hr3 hW
  simp only [Act.put, List.setIfInBounds_toArray, List.set_cons_zero, List.set_cons_succ]
  apply fr_turn; exact rfl; exact rfl; (simp); (simp); (intro x1 x2; exact rfl)
  intro x1 x2 v3 hW K hK
  simp only [FA.put2, Act.put, List.setIfInBounds_toArray, List.set_cons_zero, List.set_cons_succ]
  go_simp
  go_at_call 99
  refine minus22_any m 1 ((1 : Nat) : Int) ((2 : Nat) : Int) 4 4 4 4 _ _ _ _ v3 (R3.out.gr hW) (XH.out.gr (H1.out.tr hW)).rat (by omega) (by omega) (by omega) (by omega) ?_
  intro r4 v4 hg4 hr4
  obtain ⟨pl, Al, nl, cl, pl', Al', nl', cl', rfl, hl1, hl2⟩ := hr4
  have H2 := Lib.hid (H1.out.tr (hW.tr hg4))
  have RL1 := Lib.hid hl1.both
  have RL2 := Lib.hid hl2.both
  refine hK.out _ _ hg4 ?_
  clear hK hg4 hl1 hl2 hW
  simp only [Act.put, List.setIfInBounds_toArray, List.set_cons_zero, List.set_cons_succ]
  apply fr_turn; exact rfl; exact rfl; (simp); (simp); (intro x1 x2; exact rfl)
  intro x1 x2 v5 hW K hK
  simp only [FA.put2, Act.put, List.setIfInBounds_toArray, List.set_cons_zero, List.set_cons_succ]
  go_simp
  go_at_call 69
  refine whole_any m _ hm ?_
  intro r5 v6 hg6 hr6
  have H3 := Lib.hid (H2.out.tr (hW.tr hg6))
  have RL1 := Lib.hid (RL1.out.gr (hW.tr hg6))
  have RL2 := Lib.hid (RL2.out.gr (hW.tr hg6))
  have R5 := Lib.hid hr6
  refine hK.out _ _ hg6 ?_
  clear hK hg6 hr6 hW
  simp only [Act.put, List.setIfInBounds_toArray, List.set_cons_zero, List.set_cons_succ]
  apply fr_turn; exact rfl; exact rfl; (simp); (simp); (intro x1 x2; exact rfl)
  intro x1 x2 v7 hW K hK
  simp only [FA.put2, Act.put, List.setIfInBounds_toArray, List.set_cons_zero, List.set_cons_succ]
  go_simp
  go_at_call 96
  refine plus22_any m 1 ((1 : Nat) : Int) ((2 : Nat) : Int) 4 4 4 4 _ _ _ _ v7 (R5.out.gr hW) (XH.out.gr (H3.out.tr hW)).rat (by omega) (by omega) (by omega) (by omega) ?_
  intro r7 v8 hg8 hr8
  obtain ⟨ph, Ah, nh, ch, ph', Ah', nh', ch', rfl, hh1, hh2⟩ := hr8
  have H4 := Lib.hid (H3.out.tr (hW.tr hg8))
  have RL1 := Lib.hid (RL1.out.gr (hW.tr hg8))
  have RL2 := Lib.hid (RL2.out.gr (hW.tr hg8))
  have RH1 := Lib.hid hh1.both
  have RH2 := Lib.hid hh2.both
  refine hK.out _ _ hg8 ?_
  clear hK hg8 hh1 hh2 hW
  simp only [Act.put, List.setIfInBounds_toArray, List.set_cons_zero, List.set_cons_succ]
  refine fr_nil ?_
  intro b1 b2 V hV hne hb1 hb2
  obtain ⟨hb11, hb12, hb13⟩ := hb1
  obtain ⟨hb21, hb22, hb23⟩ := hb2
  have i1 := hb13 (v3.heap.size, v4.heap.size) (by simp)
  have i2 := hb23 (v3.heap.size, v4.heap.size) (by simp)
  have i3 := hb13 (v7.heap.size, v8.heap.size) (by simp)
  have i4 := hb23 (v7.heap.size, v8.heap.size) (by simp)
  dsimp only at i1 i2 i3 i4
  have lb := LB.out
  have NL1 : Hid (∀ b, v3.heap.size ≤ b ∧ b < v4.heap.size → b ≠ b1 ∧ b ≠ b2) := fun b hb => ⟨by omega, by omega⟩
  have NH1 : Hid (∀ b, v7.heap.size ≤ b ∧ b < v8.heap.size → b ≠ b1 ∧ b ≠ b2) := fun b hb => ⟨by omega, by omega⟩
  have NB : Hid (w.heap.size ≠ b1 ∧ w.heap.size ≠ b2) := ⟨by omega, by omega⟩
  have NS : Hid (∀ b, b < w.heap.size → b ≠ b1 ∧ b ≠ b2) := fun b hb => ⟨by omega, by omega⟩
  have HVV := Lib.hid (H4.out.tr hV)
  have RL1 := Lib.hid (RL1.out.gr hV)
  have RL2 := Lib.hid (RL2.out.gr hV)
  have RH1 := Lib.hid (RH1.out.gr hV)
  have RH2 := Lib.hid (RH2.out.gr hV)
  have X0 := Lib.hid (X0.out.gr HVV.out)
  have F1 := hb11
  have F2 := (st4_other (W := V) (c := b2) (b := b1) hne.symm (.bool pl) (.slice Al nl cl) (.bool pl') (.slice Al' nl' cl')).trans hb21
  obtain ⟨V2, hV2⟩ : ∃ V2, V2 = st4 (st4 V b1 (.bool pl) (.slice Al nl cl) (.bool pl') (.slice Al' nl' cl')) b2 (.bool ph) (.slice Ah nh ch) (.bool ph') (.slice Ah' nh' ch') := ⟨_, rfl⟩
  have Y0 := Lib.hid ((X0.out.st4 NB.out.1 (fun b hb => (NS.out b hb).1) (.bool pl) (.slice Al nl cl) (.bool pl') (.slice Al' nl' cl')).st4 NB.out.2 (fun b hb => (NS.out b hb).2) (.bool ph) (.slice Ah nh ch) (.bool ph') (.slice Ah' nh' ch'))
  rw [← hV2] at Y0
  have YL : Hid (RatBox V2 b1 pl Al nl cl pl' Al' nl' cl' (m * ((2 : Nat) : Int) + -((1 : Nat) : Int) * 1) (1 * ((2 : Nat) : Int)) 9 8 (fun b => v3.heap.size ≤ b ∧ b < v4.heap.size)) := by
    subst hV2
    exact ⟨(st4_other hne _ _ _ _).trans (st4_same hb11 _ _ _ _), (RL1.out.st4 (fun b hb => (NL1.out b hb).1) _ _ _ _).st4 (fun b hb => (NL1.out b hb).2) _ _ _ _, (RL2.out.st4 (fun b hb => (NL1.out b hb).1) _ _ _ _).st4 (fun b hb => (NL1.out b hb).2) _ _ _ _⟩
  have YH : Hid (RatBox V2 b2 ph Ah nh ch ph' Ah' nh' ch' (m * ((2 : Nat) : Int) + ((1 : Nat) : Int) * 1) (1 * ((2 : Nat) : Int)) 9 8 (fun b => v7.heap.size ≤ b ∧ b < v8.heap.size)) := by
    subst hV2
    exact ⟨st4_same F2 _ _ _ _, (RH1.out.st4 (fun b hb => (NH1.out b hb).1) _ _ _ _).st4 (fun b hb => (NH1.out b hb).2) _ _ _ _, (RH2.out.st4 (fun b hb => (NH1.out b hb).1) _ _ _ _).st4 (fun b hb => (NH1.out b hb).2) _ _ _ _⟩
  have GV2 : Hid (Grow w V2) := by
    subst hV2
    exact ((GW.out.tr HVV.out).st4 (by omega) _ _ _ _).st4 (by omega) _ _ _ _
  have O1 := Lib.hid fun (R : Ending → World → Prop) hR => order_any _ _ _ _ 9 8 k j _ _ _ _ V2 YL.out.rat Y0.out.rat (by omega) (by omega) (by omega) (by omega) (R := R) hR
  have O2 := Lib.hid fun W (g : Grow V2 W) (R : Ending → World → Prop) hR => order_any _ _ _ _ k j 9 8 _ _ _ _ W (Y0.out.gr g).rat (YH.out.gr g).rat (by omega) (by omega) (by omega) (by omega) (R := R) hR
  have HR2 : Hid (∀ w', Grow w w' → R (.returned (.bool (decide (((m * ((2 : Nat) : Int) + -((1 : Nat) : Int) * 1) * d - n * (1 * ((2 : Nat) : Int))).sign ≤ 0) && decide ((n * (1 * ((2 : Nat) : Int)) - (m * ((2 : Nat) : Int) + ((1 : Nat) : Int) * 1) * d).sign < 0)))) w') := HR.out
  obtain ⟨s1, hs1⟩ : ∃ s1, ((m * ((2 : Nat) : Int) + -((1 : Nat) : Int) * 1) * d - n * (1 * ((2 : Nat) : Int))).sign = s1 := ⟨_, rfl⟩
  obtain ⟨s2, hs2⟩ : ∃ s2, (n * (1 * ((2 : Nat) : Int)) - (m * ((2 : Nat) : Int) + ((1 : Nat) : Int) * 1) * d).sign = s2 := ⟨_, rfl⟩
  rw [hs1] at O1 HR2
  rw [hs2] at O2 HR2
  clear hs1 hs2 HR
  simp only [st4] at F2 hV2
  simp only [FA.put2, ptrTo, Act.put, List.setIfInBounds_toArray, List.set_cons_zero, List.set_cons_succ]
  simp only [List.drop_succ_cons, List.drop_zero]
  have xc0 := cell_of_row _ b1 0 _ _ (0, 0) F1
  have xf0 := frozen_of_row _ b1 0 _ _ F1
  have g1 := blk_set F1 0 (.bool pl)
  have xc1 := cell_of_row _ b1 1 _ _ (0, 0) g1
  have xf1 := frozen_of_row _ b1 1 _ _ g1
  have g2 := blk_set g1 1 (.slice Al nl cl)
  have xc2 := cell_of_row _ b1 2 _ _ (0, 0) g2
  have xf2 := frozen_of_row _ b1 2 _ _ g2
  have g3 := blk_set g2 2 (.bool pl')
  have xc3 := cell_of_row _ b1 3 _ _ (0, 0) g3
  have xf3 := frozen_of_row _ b1 3 _ _ g3
  have yc0 := cell_of_row _ b2 0 _ _ (0, 0) F2
  have yf0 := frozen_of_row _ b2 0 _ _ F2
  have k1 := blk_set F2 0 (.bool ph)
  have yc1 := cell_of_row _ b2 1 _ _ (0, 0) k1
  have yf1 := frozen_of_row _ b2 1 _ _ k1
  have k2 := blk_set k1 1 (.slice Ah nh ch)
  have yc2 := cell_of_row _ b2 2 _ _ (0, 0) k2
  have yf2 := frozen_of_row _ b2 2 _ _ k2
  have k3 := blk_set k2 2 (.bool ph')
  have yc3 := cell_of_row _ b2 3 _ _ (0, 0) k3
  have yf3 := frozen_of_row _ b2 3 _ _ k3
  simp only [List.setIfInBounds_toArray, List.set_cons_zero, List.set_cons_succ] at xc0 xc1 xc2 xc3 yc0 yc1 yc2 yc3
  have z0 := Y0.out.c0
  have z1 := Y0.out.c1
  have z2 := Y0.out.c2
  have z3 := Y0.out.c3
  have l0 := YL.out.c0
  have l1 := YL.out.c1
  have l2 := YL.out.c2
  have l3 := YL.out.c3
  clear g1 g2 g3 k1 k2 k3 F1 F2 hb11 hb12 hb13 hb21 hb22 hb23 i1 i2 i3 i4 hne hV lb
  rw [hV2] at z0 z1 z2 z3 l0 l1 l2 l3
  go_wp2_with fail
  rw [← hV2]
  clear xc0 xf0 xc1 xf1 xc2 xf2 xc3 xf3 yc0 yf0 yc1 yf1 yc2 yf2 yc3 yf3 z0 z1 z2 z3 l0 l1 l2 l3 hV2
  go_at_call 68
  refine O1.out _ ?_
  intro V3 hV3
  have HV3 := Lib.hid hV3
  clear hV3 O1
  by_cases h1 : s1 ≤ 0
  · have t1 : decide (s1 ≤ 0) = true := decide_eq_true h1
    have z0 := (Y0.out.gr HV3.out).c0
    have z1 := (Y0.out.gr HV3.out).c1
    have z2 := (Y0.out.gr HV3.out).c2
    have z3 := (Y0.out.gr HV3.out).c3
    have m0 := (YH.out.gr HV3.out).c0
    have m1 := (YH.out.gr HV3.out).c1
    have m2 := (YH.out.gr HV3.out).c2
    have m3 := (YH.out.gr HV3.out).c3
    rw [t1] at HR2
    go_wp2_with fail
    go_at_call 68
    refine O2.out _ HV3.out _ ?_
    intro V4 hV4
    have HV4 := Lib.hid (GV2.out.tr (HV3.out.tr hV4))
    clear hV4 z0 z1 z2 z3 m0 m1 m2 m3 t1 h1
    by_cases h2 : s2 < 0
    · have t2 : decide (s2 < 0) = true := decide_eq_true h2
      rw [t2] at HR2
      go_wp2
      exact HR2.out _ HV4.out
    · have t2 : decide (s2 < 0) = false := decide_eq_false h2
      rw [t2] at HR2
      go_wp2
      exact HR2.out _ HV4.out
  · have t1 : decide (s1 ≤ 0) = false := decide_eq_false h1
    rw [t1] at HR2
    go_wp2
    exact HR2.out _ (GV2.out.tr HV3.out)
end Go.Proofs.Ythgibnmnjoniiaa
