/-
  The reference's lines, third part: places; At, on.
-/
import Derived.Test.YtjcgkhcbdbbdkaaChecked
import Derived.Test.YtjcgkhcbdbbdkaaLVal
import Derived.Deep.Cut
namespace Go.Proofs.Ytjcgkhcbdbbdkaa
open Go.RowKit Go.Lib B

structure PV where
  x : RV
  y : RV
def PV.cells (p : PV) : List Value := [.bool p.x.nu.p, .slice p.x.nu.A p.x.nu.n p.x.nu.c, .bool p.x.de.p, .slice p.x.de.A p.x.de.n p.x.de.c, .bool p.y.nu.p, .slice p.y.nu.A p.y.nu.n p.y.nu.c, .bool p.y.de.p, .slice p.y.de.A p.y.de.n p.y.de.c]
theorem PV.cells_len (p : PV) : p.cells.length = 8 := rfl
def PV.q (p : PV) : PtQ := ⟨p.x.q, p.y.q⟩
def PV.rd (p : PV) (w : World) (S : Nat → Prop) (k : Nat) : Prop := p.x.rd w S k ∧ p.y.rd w S k
theorem PV.rd.gr {p : PV} {w w' : World} {S : Nat → Prop} {k : Nat} (h : p.rd w S k) (hg : Grow w w') : p.rd w' S k := ⟨h.1.gr hg, h.2.gr hg⟩
theorem PV.rd.into {p : PV} {w : World} {S T : Nat → Prop} {k : Nat} (h : p.rd w S k) (hk : ∀ b, S b → T b) : p.rd w T k := ⟨h.1.into hk, h.2.into hk⟩
theorem PV.rd.up {p : PV} {w : World} {S : Nat → Prop} {k k' : Nat} (h : p.rd w S k) (hk : k ≤ k') : p.rd w S k' := ⟨h.1.up hk, h.2.up hk⟩
theorem PV.rd.both {p : PV} {w : World} {S : Nat → Prop} {k : Nat} (h : p.rd w S k) : p.rd w (fun b => S b ∧ b < w.heap.size) k := ⟨h.1.both, h.2.both⟩
def st8 (W : World) (b : Nat) (u0 u1 u2 u3 u4 u5 u6 u7 : Value) : World := (((((((W.setCell ⟨b, 0, none⟩ u0).setCell ⟨b, 1, none⟩ u1).setCell ⟨b, 2, none⟩ u2).setCell ⟨b, 3, none⟩ u3).setCell ⟨b, 4, none⟩ u4).setCell ⟨b, 5, none⟩ u5).setCell ⟨b, 6, none⟩ u6).setCell ⟨b, 7, none⟩ u7
theorem Grow.st8 {w W : World} {b : Nat} (h : Grow w W) (hb : w.heap.size ≤ b) (u0 u1 u2 u3 u4 u5 u6 u7 : Value) : Grow w (st8 W b u0 u1 u2 u3 u4 u5 u6 u7) :=
  (((((((h.set (p := ⟨b, 0, none⟩) hb u0).set (p := ⟨b, 1, none⟩) hb u1).set (p := ⟨b, 2, none⟩) hb u2).set (p := ⟨b, 3, none⟩) hb u3).set (p := ⟨b, 4, none⟩) hb u4).set (p := ⟨b, 5, none⟩) hb u5).set (p := ⟨b, 6, none⟩) hb u6).set (p := ⟨b, 7, none⟩) hb u7
theorem st8_other {W : World} {b c : Nat} (hne : c ≠ b) (u0 u1 u2 u3 u4 u5 u6 u7 : Value) : (st8 W b u0 u1 u2 u3 u4 u5 u6 u7).heap[c]? = W.heap[c]? := by
  simp [st8, World.setCell, Array.getElem?_modify, hne.symm]
theorem st8_size (W : World) (b : Nat) (u0 u1 u2 u3 u4 u5 u6 u7 : Value) : (st8 W b u0 u1 u2 u3 u4 u5 u6 u7).heap.size = W.heap.size := by
  simp [st8, World.setCell]
theorem RV.rd.st8 {r : RV} {W : World} {S : Nat → Prop} {k B : Nat} (h : r.rd W S k) (hB : BoxN W B) (a : Bool) (b : Value) (c : Bool) (d : Value) (a' : Bool) (b' : Value) (c' : Bool) (d' : Value) (hb : ∀ k n, b ≠ .int k n) (hd : ∀ k n, d ≠ .int k n) (hb' : ∀ k n, b' ≠ .int k n) (hd' : ∀ k n, d' ≠ .int k n) :
    r.rd (st8 W B (.bool a) b (.bool c) d (.bool a') b' (.bool c') d') S k := by
  have n1 : ∀ (x : Bool) k n, Value.bool x ≠ .int k n := fun _ _ _ e => by cases e
  have b1 := hB.set B 0 (n1 a)
  have b2 := b1.set B 1 hb
  have b3 := b2.set B 2 (n1 c)
  have b4 := b3.set B 3 hd
  have b5 := b4.set B 4 (n1 a')
  have b6 := b5.set B 5 hb'
  have b7 := b6.set B 6 (n1 c')
  have _ := hd'
  exact (((((((h.put hB _).put b1 _).put b2 _).put b3 _).put b4 _).put b5 _).put b6 _).put b7 _
theorem BoxN.st8 {W : World} {B : Nat} (h : BoxN W B) (C : Nat) (a : Bool) (b : Value) (c : Bool) (d : Value) (a' : Bool) (b' : Value) (c' : Bool) (d' : Value) (hb : ∀ k n, b ≠ .int k n) (hd : ∀ k n, d ≠ .int k n) (hb' : ∀ k n, b' ≠ .int k n) (hd' : ∀ k n, d' ≠ .int k n) :
    BoxN (st8 W C (.bool a) b (.bool c) d (.bool a') b' (.bool c') d') B := by
  have n1 : ∀ (x : Bool) k n, Value.bool x ≠ .int k n := fun _ _ _ e => by cases e
  exact (((((((h.set C 0 (n1 a)).set C 1 hb).set C 2 (n1 c)).set C 3 hd).set C 4 (n1 a')).set C 5 hb').set C 6 (n1 c')).set C 7 hd'
theorem pl_noint (p : Bool) (A : Option Addr) (x c : Nat) (p' : Bool) (A' : Option Addr) (x' c' : Nat) (q : Bool) (B : Option Addr) (y d : Nat) (q' : Bool) (B' : Option Addr) (y' d' : Nat) : ∀ (j : Nat) k n, (#[Value.bool p, .slice A x c, .bool p', .slice A' x' c', .bool q, .slice B y d, .bool q', .slice B' y' d'] : Array Value)[j]? ≠ some (.int k n) := by
  intro j k n h
  rcases j with _ | _ | _ | _ | _ | _ | _ | _ | j <;> simp at h
theorem divone (n : Int) : ((n : Int) : Rat) / ((1 : Int) : Rat) = (n : Rat) := by
  have : ((1 : Int) : Rat) = 1 := rfl
  grind
set_option maxRecDepth 100000 in
set_option maxHeartbeats 3000000 in
theorem at24_any (p : Pt) (w : World) (hp : p.ok) {R : Ending → World → Prop}
    (hR : ∀ (r : PV) w', Grow w w' → r.q = p.pq → r.rd w' (fun b => w.heap.size ≤ b) 4 → R (.returned (.agg r.cells.toArray)) w') :
    Calls Try.prog 30 #[.agg p.cells.toArray] w R := by
  have HR := Lib.hid hR
  clear hR
  obtain ⟨px, py⟩ := p
  obtain ⟨hx, hy⟩ := hp
  have HP := Lib.hid (And.intro hx hy)
  clear hx hy
  dsimp only at HP
  unfold Pt.cells Pt.pq at *
  unfold PV.cells PV.q at HR
  dsimp only at HR ⊢
  obtain ⟨wa, hwa⟩ : ∃ wa, wa = (w.alloc (.cells #[.int .i64 px, .int .i64 py] 23)).alloc (.cells #[.bool false, .slice none 0 0, .bool false, .slice none 0 0, .bool false, .slice none 0 0, .bool false, .slice none 0 0] 37) := ⟨_, rfl⟩
  have GA : Hid (Grow w wa) := by subst hwa; exact ((Grow.refl w).al _).al _
  have FP : Hid (wa.heap[w.heap.size]? = some (.cells #[.int .i64 px, .int .i64 py] 23 (0, 0))) := by
    subst hwa
    exact blk_al w _ _ ((Grow.refl _).al _)
  have F0 : Hid (wa.heap[w.heap.size + 1]? = some (.cells #[.bool false, .slice none 0 0, .bool false, .slice none 0 0, .bool false, .slice none 0 0, .bool false, .slice none 0 0] 37 (0, 0))) := by
    subst hwa
    have := blk_al (w.alloc (.cells #[.int .i64 px, .int .i64 py] 23)) #[.bool false, .slice none 0 0, .bool false, .slice none 0 0, .bool false, .slice none 0 0, .bool false, .slice none 0 0] 37 (Grow.refl _)
    rwa [World.size_alloc] at this
  have SZ : Hid (wa.heap.size = w.heap.size + 2) := by
    subst hwa
    show _ = _
    simp only [World.size_alloc]
  go_enter Try.func30, Try.ntmps30
  go_wp2_with fail
  rw [← hwa]
  clear hwa
  have G0 := Lib.hid ((Grow.refl wa).dr)
  have FP := Lib.hid (grow_blk G0.out FP.out)
  have F0 := Lib.hid (grow_blk G0.out F0.out)
  have GA := Lib.hid (GA.out.tr G0.out)
  have SZ : Hid (wa.drew.heap.size = w.heap.size + 2) := SZ.out
  clear G0
  refine wp_region_lexT (Grow wa.drew) ((Grow.refl _)) 5 [0, 1, 3, 4, 2] (by kernel_rfl) (by kernel_rfl) (by intro c a d v w h; cases d <;> exact h) ?_
  iterate 4 (apply lext_take; exact rfl; exact rfl; (intro W hW; have fp := grow_blk hW FP.out; have z0 := cell_of_row _ _ 0 _ _ (0, 0) fp; have z1 := cell_of_row _ _ 1 _ _ (0, 0) fp; clear fp; (try clear hW); go_simp; with_reducible rfl); try simp only [Act.put, List.setIfInBounds_toArray, List.set_cons_zero, List.set_cons_succ])
  generalize wa.drew = wb at *
  apply lext_turn; exact rfl; exact rfl; exact rfl; intro K hK; go_simp; go_at_call 26; refine whole_q px _ HP.out.1 ?_; intro rx w1 hg1 hq1 hr1
  obtain ⟨⟨a1, a2, a3, a4⟩, ⟨a5, a6, a7, a8⟩, aq⟩ := rx
  have G1 := Lib.hid hg1
  have R1 := Lib.hid (hr1.into (T := fun b => w.heap.size ≤ b) fun b hb => by have := SZ.out; omega)
  have Q1 := Lib.hid hq1
  unfold RV.cells
  dsimp only at Q1 ⊢
  refine hK.out _ _ G1.out ?_
  clear hK hg1 hq1 hr1
  try simp only [Act.put, List.setIfInBounds_toArray, List.set_cons_zero, List.set_cons_succ]
  refine lext_nil ?_
  simp only [List.drop_succ_cons, List.drop_zero]
  go_wp2_with fail
  go_at_call 26
  refine whole_q py _ HP.out.2 ?_
  intro ry w2 hg2 hq2 hr2
  obtain ⟨⟨b1, b2, b3, b4⟩, ⟨b5, b6, b7, b8⟩, bq⟩ := ry
  have G2 := Lib.hid (G1.out.tr hg2)
  have R1 := Lib.hid (R1.out.gr hg2)
  have LS : Hid (w.heap.size ≤ w1.heap.size) := (GA.out.tr G1.out).size
  have R2 := Lib.hid (hr2.into (T := fun b => w.heap.size ≤ b) fun b hb => by have := LS.out; omega)
  have Q2 := Lib.hid hq2
  have F0 := Lib.hid (grow_blk G2.out F0.out)
  have GW := Lib.hid (GA.out.tr G2.out)
  clear hg2 hq2 hr2 G1 G2 LS
  unfold RV.cells
  dsimp only at Q2 ⊢
  have ub0 := F0.out
  have uz0 := cell_of_row _ (w.heap.size + 1) 0 _ _ (0, 0) ub0
  have ug0 := frozen_of_row _ (w.heap.size + 1) 0 _ _ ub0
  have ub1 := blk_set ub0 0 (.bool a1)
  have uz1 := cell_of_row _ (w.heap.size + 1) 1 _ _ (0, 0) ub1
  have ug1 := frozen_of_row _ (w.heap.size + 1) 1 _ _ ub1
  have ub2 := blk_set ub1 1 (.slice a2 a3 a4)
  have uz2 := cell_of_row _ (w.heap.size + 1) 2 _ _ (0, 0) ub2
  have ug2 := frozen_of_row _ (w.heap.size + 1) 2 _ _ ub2
  have ub3 := blk_set ub2 2 (.bool a5)
  have uz3 := cell_of_row _ (w.heap.size + 1) 3 _ _ (0, 0) ub3
  have ug3 := frozen_of_row _ (w.heap.size + 1) 3 _ _ ub3
  have ub4 := blk_set ub3 3 (.slice a6 a7 a8)
  have uz4 := cell_of_row _ (w.heap.size + 1) 4 _ _ (0, 0) ub4
  have ug4 := frozen_of_row _ (w.heap.size + 1) 4 _ _ ub4
  have ub5 := blk_set ub4 4 (.bool b1)
  have uz5 := cell_of_row _ (w.heap.size + 1) 5 _ _ (0, 0) ub5
  have ug5 := frozen_of_row _ (w.heap.size + 1) 5 _ _ ub5
  have ub6 := blk_set ub5 5 (.slice b2 b3 b4)
  have uz6 := cell_of_row _ (w.heap.size + 1) 6 _ _ (0, 0) ub6
  have ug6 := frozen_of_row _ (w.heap.size + 1) 6 _ _ ub6
  have ub7 := blk_set ub6 6 (.bool b5)
  have uz7 := cell_of_row _ (w.heap.size + 1) 7 _ _ (0, 0) ub7
  have ug7 := frozen_of_row _ (w.heap.size + 1) 7 _ _ ub7
  have ub8 := blk_set ub7 7 (.slice b6 b7 b8)
  simp only [List.setIfInBounds_toArray, List.set_cons_zero, List.set_cons_succ] at uz0 uz1 uz2 uz3 uz4 uz5 uz6 uz7
  have uL := Lib.hid ub8
  clear ub0 ub1 ub2 ub3 ub4 ub5 ub6 ub7 ub8
  have RL : ((((((((w2.setCell ⟨w.heap.size + 1, 0, none⟩ (.bool a1)).setCell ⟨w.heap.size + 1, 1, none⟩ (.slice a2 a3 a4)).setCell ⟨w.heap.size + 1, 2, none⟩ (.bool a5)).setCell ⟨w.heap.size + 1, 3, none⟩ (.slice a6 a7 a8)).setCell ⟨w.heap.size + 1, 4, none⟩ (.bool b1)).setCell ⟨w.heap.size + 1, 5, none⟩ (.slice b2 b3 b4)).setCell ⟨w.heap.size + 1, 6, none⟩ (.bool b5)).setCell ⟨w.heap.size + 1, 7, none⟩ (.slice b6 b7 b8)).heap[w.heap.size + 1]? = some (.cells #[.bool a1, .slice a2 a3 a4, .bool a5, .slice a6 a7 a8, .bool b1, .slice b2 b3 b4, .bool b5, .slice b6 b7 b8] 37 (0, 0)) := uL.out
  have y0 := cell_of_row _ (w.heap.size + 1) 0 _ _ (0, 0) RL
  have y1 := cell_of_row _ (w.heap.size + 1) 1 _ _ (0, 0) RL
  have y2 := cell_of_row _ (w.heap.size + 1) 2 _ _ (0, 0) RL
  have y3 := cell_of_row _ (w.heap.size + 1) 3 _ _ (0, 0) RL
  have y4 := cell_of_row _ (w.heap.size + 1) 4 _ _ (0, 0) RL
  have y5 := cell_of_row _ (w.heap.size + 1) 5 _ _ (0, 0) RL
  have y6 := cell_of_row _ (w.heap.size + 1) 6 _ _ (0, 0) RL
  have y7 := cell_of_row _ (w.heap.size + 1) 7 _ _ (0, 0) RL
  have NB : BoxN w2 (w.heap.size + 1) := ⟨_, _, _, F0.out, pl_noint _ _ _ _ _ _ _ _ _ _ _ _ _ _ _ _⟩
  have R1F : Hid ((⟨⟨a1, a2, a3, a4⟩, ⟨a5, a6, a7, a8⟩, aq⟩ : RV).rd ((((((((w2.setCell ⟨w.heap.size + 1, 0, none⟩ (.bool a1)).setCell ⟨w.heap.size + 1, 1, none⟩ (.slice a2 a3 a4)).setCell ⟨w.heap.size + 1, 2, none⟩ (.bool a5)).setCell ⟨w.heap.size + 1, 3, none⟩ (.slice a6 a7 a8)).setCell ⟨w.heap.size + 1, 4, none⟩ (.bool b1)).setCell ⟨w.heap.size + 1, 5, none⟩ (.slice b2 b3 b4)).setCell ⟨w.heap.size + 1, 6, none⟩ (.bool b5)).setCell ⟨w.heap.size + 1, 7, none⟩ (.slice b6 b7 b8)) (fun b => w.heap.size ≤ b) 4) := R1.out.st8 NB _ _ _ _ _ _ _ _ (sl_noint _ _ _) (sl_noint _ _ _) (sl_noint _ _ _) (sl_noint _ _ _)
  have R2F : Hid ((⟨⟨b1, b2, b3, b4⟩, ⟨b5, b6, b7, b8⟩, bq⟩ : RV).rd ((((((((w2.setCell ⟨w.heap.size + 1, 0, none⟩ (.bool a1)).setCell ⟨w.heap.size + 1, 1, none⟩ (.slice a2 a3 a4)).setCell ⟨w.heap.size + 1, 2, none⟩ (.bool a5)).setCell ⟨w.heap.size + 1, 3, none⟩ (.slice a6 a7 a8)).setCell ⟨w.heap.size + 1, 4, none⟩ (.bool b1)).setCell ⟨w.heap.size + 1, 5, none⟩ (.slice b2 b3 b4)).setCell ⟨w.heap.size + 1, 6, none⟩ (.bool b5)).setCell ⟨w.heap.size + 1, 7, none⟩ (.slice b6 b7 b8)) (fun b => w.heap.size ≤ b) 4) := R2.out.st8 NB _ _ _ _ _ _ _ _ (sl_noint _ _ _) (sl_noint _ _ _) (sl_noint _ _ _) (sl_noint _ _ _)
  have GF : Hid (Grow w ((((((((w2.setCell ⟨w.heap.size + 1, 0, none⟩ (.bool a1)).setCell ⟨w.heap.size + 1, 1, none⟩ (.slice a2 a3 a4)).setCell ⟨w.heap.size + 1, 2, none⟩ (.bool a5)).setCell ⟨w.heap.size + 1, 3, none⟩ (.slice a6 a7 a8)).setCell ⟨w.heap.size + 1, 4, none⟩ (.bool b1)).setCell ⟨w.heap.size + 1, 5, none⟩ (.slice b2 b3 b4)).setCell ⟨w.heap.size + 1, 6, none⟩ (.bool b5)).setCell ⟨w.heap.size + 1, 7, none⟩ (.slice b6 b7 b8))) := GW.out.st8 (by omega) _ _ _ _ _ _ _ _
  clear RL uL NB
  go_wp2
  exact bodyPost_ret (v := .agg #[.bool a1, .slice a2 a3 a4, .bool a5, .slice a6 a7 a8, .bool b1, .slice b2 b3 b4, .bool b5, .slice b6 b7 b8]) (by simp [results, Try.f30, go_sem, y0, y1, y2, y3, y4, y5, y6, y7]) rfl (HR.out ⟨(⟨⟨a1, a2, a3, a4⟩, ⟨a5, a6, a7, a8⟩, aq⟩ : RV), (⟨⟨b1, b2, b3, b4⟩, ⟨b5, b6, b7, b8⟩, bq⟩ : RV)⟩ _ GF.out (by rw [Q1.out, Q2.out]) ⟨R1F.out, R2F.out⟩)
set_option maxRecDepth 100000 in
set_option maxHeartbeats 6000000 in
theorem on_q (p q : Pt) (t : RV) (k : Nat) (S : Nat → Prop) (w : World) (ht : t.rd w S k) (hk : k ≤ 1000) (hp : p.ok) (hq : q.ok) {R : Ending → World → Prop}
    (hR : ∀ (r : PV) w', Grow w w' → r.q = onQ p q t.q → r.rd w' (fun b => w.heap.size ≤ b) (k + 10) → R (.returned (.agg r.cells.toArray)) w') :
    Calls Try.prog 45 #[.agg p.cells.toArray, .agg q.cells.toArray, .agg t.cells.toArray] w R := by
  have HR := Lib.hid hR
  clear hR
  have HT := Lib.hid ht
  obtain ⟨px, py⟩ := p
  obtain ⟨qx, qy⟩ := q
  obtain ⟨⟨t1, t2, t3, t4⟩, ⟨t5, t6, t7, t8⟩, tq⟩ := t
  have HP : Hid (I64 px ∧ I64 py ∧ I64 qx ∧ I64 qy) := ⟨hp.1, hp.2, hq.1, hq.2⟩
  have HK := Lib.hid hk
  clear hp hq ht hk
  unfold Pt.cells RV.cells
  unfold PV.cells PV.q onQ at HR
  dsimp only at HR ⊢
  obtain ⟨wa, hwa⟩ : ∃ wa, wa = (((w.alloc (.cells #[.int .i64 px, .int .i64 py] 23)).alloc (.cells #[.int .i64 qx, .int .i64 qy] 23)).alloc (.cells #[.bool t1, .slice t2 t3 t4, .bool t5, .slice t6 t7 t8] 35)).alloc (.cells #[.bool false, .slice none 0 0, .bool false, .slice none 0 0, .bool false, .slice none 0 0, .bool false, .slice none 0 0] 37) := ⟨_, rfl⟩
  have GA : Hid (Grow w wa) := by subst hwa; exact ((((Grow.refl w).al _).al _).al _).al _
  have FP : Hid (wa.heap[w.heap.size]? = some (.cells #[.int .i64 px, .int .i64 py] 23 (0, 0))) := by
    subst hwa
    exact blk_al w _ _ ((((Grow.refl _).al _).al _).al _)
  have FQ : Hid (wa.heap[w.heap.size + 1]? = some (.cells #[.int .i64 qx, .int .i64 qy] 23 (0, 0))) := by
    subst hwa
    have := blk_al (w.alloc (.cells #[.int .i64 px, .int .i64 py] 23)) #[.int .i64 qx, .int .i64 qy] 23 (((Grow.refl _).al (.cells #[.bool t1, .slice t2 t3 t4, .bool t5, .slice t6 t7 t8] 35)).al (.cells #[.bool false, .slice none 0 0, .bool false, .slice none 0 0, .bool false, .slice none 0 0, .bool false, .slice none 0 0] 37))
    rwa [World.size_alloc] at this
  have FT : Hid (wa.heap[w.heap.size + 1 + 1]? = some (.cells #[.bool t1, .slice t2 t3 t4, .bool t5, .slice t6 t7 t8] 35 (0, 0))) := by
    subst hwa
    have := blk_al ((w.alloc (.cells #[.int .i64 px, .int .i64 py] 23)).alloc (.cells #[.int .i64 qx, .int .i64 qy] 23)) #[.bool t1, .slice t2 t3 t4, .bool t5, .slice t6 t7 t8] 35 ((Grow.refl _).al (.cells #[.bool false, .slice none 0 0, .bool false, .slice none 0 0, .bool false, .slice none 0 0, .bool false, .slice none 0 0] 37))
    rwa [World.size_alloc, World.size_alloc] at this
  have F0 : Hid (wa.heap[w.heap.size + 1 + 1 + 1]? = some (.cells #[.bool false, .slice none 0 0, .bool false, .slice none 0 0, .bool false, .slice none 0 0, .bool false, .slice none 0 0] 37 (0, 0))) := by
    subst hwa
    have := blk_al (((w.alloc (.cells #[.int .i64 px, .int .i64 py] 23)).alloc (.cells #[.int .i64 qx, .int .i64 qy] 23)).alloc (.cells #[.bool t1, .slice t2 t3 t4, .bool t5, .slice t6 t7 t8] 35)) #[.bool false, .slice none 0 0, .bool false, .slice none 0 0, .bool false, .slice none 0 0, .bool false, .slice none 0 0] 37 (Grow.refl _)
    rwa [World.size_alloc, World.size_alloc, World.size_alloc] at this
  have SZ : Hid (wa.heap.size = w.heap.size + 4) := by
    subst hwa
    show _ = _
    simp only [World.size_alloc]
  go_enter Try.func45, Try.ntmps45
  go_wp2_with fail
  rw [← hwa]
  clear hwa
  have GW := Lib.hid GA.out.dr
  have G0 := Lib.hid ((Grow.refl wa).dr)
  have FP := Lib.hid (grow_blk G0.out FP.out)
  have FQ := Lib.hid (grow_blk G0.out FQ.out)
  have FT := Lib.hid (grow_blk G0.out FT.out)
  have F0 := Lib.hid (grow_blk G0.out F0.out)
  have SZ : Hid (wa.drew.heap.size = w.heap.size + 4) := SZ.out
  clear GA G0
  refine wp_region_freeS ⟨18, some 7, 35, #[.bool false, .slice none 0 0, .bool false, .slice none 0 0]⟩ ⟨19, some 8, 35, #[.bool false, .slice none 0 0, .bool false, .slice none 0 0]⟩ 21 [0, 1, 3, 4, 9, 10, 12, 13, 2, 5, 6, 7, 8, 11, 14, 15, 16, 17] [20] (by kernel_rfl) (by kernel_rfl) (by decide) ⟨_, rfl, rfl, rfl, fun a W K h => by go_simp; exact h⟩ ⟨_, rfl, rfl, rfl, fun a W K h => by go_simp; exact h⟩ (by intro c a d v w h; cases d <;> exact h) undef undef rfl rfl ?_
  generalize wa.drew = wb at *
  iterate 8
    apply frs_take; exact rfl; (simp); (simp); (intro x1 x2; exact rfl)
    · intro x1 x2 W' hW
      have fp := grow_blk hW FP.out
      have fq := grow_blk hW FQ.out
      have z0 := cell_of_row _ _ 0 _ _ (0, 0) fp
      have z1 := cell_of_row _ _ 1 _ _ (0, 0) fp
      have y0 := cell_of_row _ _ 0 _ _ (0, 0) fq
      have y1 := cell_of_row _ _ 1 _ _ (0, 0) fq
      clear hW fp fq
      simp only [FA.put2, Act.put, List.setIfInBounds_toArray, List.set_cons_zero, List.set_cons_succ]
      go_simp
      with_reducible rfl
    simp only [Act.put, List.setIfInBounds_toArray, List.set_cons_zero, List.set_cons_succ]
  apply frs_turn; exact rfl; exact rfl; (simp); (simp); (intro x1 x2; exact rfl)
  intro x1 x2 W5 hW hJ K hK
  simp only [FA.put2, Act.put, List.setIfInBounds_toArray, List.set_cons_zero, List.set_cons_succ]
  go_simp
  go_at_call 62
  refine int_any qx _ HP.out.2.2.1 ?_
  intro r1 w1 hg1 hr1
  have R1 := Lib.hid hr1
  have LS1 : Hid (w.heap.size ≤ W5.heap.size) := by have h := hW.size; have := SZ.out; exact Nat.le_trans (by omega) h
  refine hK.out _ _ (fun W => Grow w1 W) hg1 (fun _ _ g h => h.tr g) (Grow.refl _) ?_
  clear hK hW hg1 hr1 hJ
  simp only [Act.put, List.setIfInBounds_toArray, List.set_cons_zero, List.set_cons_succ]
  apply frs_turn; exact rfl; exact rfl; (simp); (simp); (intro x1 x2; exact rfl)
  intro x1 x2 W5 hW hJ K hK
  simp only [FA.put2, Act.put, List.setIfInBounds_toArray, List.set_cons_zero, List.set_cons_succ]
  go_simp
  go_at_call 62
  refine int_any px _ HP.out.1 ?_
  intro r2 w2 hg2 hr2
  have R1 := Lib.hid (R1.out.gr (hJ.tr hg2))
  have R2 := Lib.hid hr2
  refine hK.out _ _ (fun W => Grow w2 W) hg2 (fun _ _ g h => h.tr g) (Grow.refl _) ?_
  clear hK hW hg2 hr2 hJ
  simp only [Act.put, List.setIfInBounds_toArray, List.set_cons_zero, List.set_cons_succ]
  apply frs_turn; exact rfl; exact rfl; (simp); (simp); (intro x1 x2; exact rfl)
  intro x1 x2 W5 hW hJ K hK
  simp only [FA.put2, Act.put, List.setIfInBounds_toArray, List.set_cons_zero, List.set_cons_succ]
  go_simp
  go_at_call 76
  refine sub_any qx px 4 4 _ _ _ _ _ (R1.out.gr hJ) (R2.out.gr hJ) (by omega) (by omega) ?_
  intro r3 w3 hg3 hr3
  obtain ⟨a1, a2, a3, a4, rfl⟩ := hr3.parts
  have LS3 : Hid (w.heap.size ≤ W5.heap.size) := by have h := hW.size; have := SZ.out; exact Nat.le_trans (by omega) h
  have R3 := Lib.hid hr3
  refine hK.out _ _ (fun W => Grow w3 W) hg3 (fun _ _ g h => h.tr g) (Grow.refl _) ?_
  clear hK hW hg3 hr3 hJ R1 R2
  simp only [Act.put, List.setIfInBounds_toArray, List.set_cons_zero, List.set_cons_succ]
  apply frs_turn; exact rfl; exact rfl; (simp); (simp); (intro x1 x2; exact rfl)
  intro x1 x2 W5 hW hJ K hK
  simp only [FA.put2, Act.put, List.setIfInBounds_toArray, List.set_cons_zero, List.set_cons_succ]
  go_simp
  go_at_call 59
  refine word_any 1 _ (by omega) ?_
  intro r4 w4 hg4 hr4
  obtain ⟨a5, a6, a7, a8, rfl⟩ := hr4.parts
  have LS4 : Hid (w.heap.size ≤ W5.heap.size) := by have h := hW.size; have := SZ.out; exact Nat.le_trans (by omega) h
  have R3 := Lib.hid (R3.out.gr (hJ.tr hg4))
  have R4 := Lib.hid hr4
  refine hK.out _ _ (fun W => Grow w4 W) hg4 (fun _ _ g h => h.tr g) (Grow.refl _) ?_
  clear hK hW hg4 hr4 hJ
  simp only [Act.put, List.setIfInBounds_toArray, List.set_cons_zero, List.set_cons_succ]
  apply frs_take; exact rfl; (simp); (simp); (intro x1 x2; exact rfl)
  · intro x1 x2 W' hW
    have fp := grow_blk hW FP.out
    have fq := grow_blk hW FQ.out
    have z0 := cell_of_row _ _ 0 _ _ (0, 0) fp
    have z1 := cell_of_row _ _ 1 _ _ (0, 0) fp
    have y0 := cell_of_row _ _ 0 _ _ (0, 0) fq
    have y1 := cell_of_row _ _ 1 _ _ (0, 0) fq
    clear hW fp fq
    simp only [FA.put2, Act.put, List.setIfInBounds_toArray, List.set_cons_zero, List.set_cons_succ]
    go_simp
    with_reducible rfl
  simp only [Act.put, List.setIfInBounds_toArray, List.set_cons_zero, List.set_cons_succ]
  apply frs_turn; exact rfl; exact rfl; (simp); (simp); (intro x1 x2; exact rfl)
  intro x1 x2 W5 hW hJ K hK
  simp only [FA.put2, Act.put, List.setIfInBounds_toArray, List.set_cons_zero, List.set_cons_succ]
  go_simp
  go_at_call 62
  refine int_any qy _ HP.out.2.2.2 ?_
  intro r5 w5 hg5 hr5
  have R3 := Lib.hid (R3.out.gr (hJ.tr hg5))
  have R4 := Lib.hid (R4.out.gr (hJ.tr hg5))
  have R5 := Lib.hid hr5
  refine hK.out _ _ (fun W => Grow w5 W) hg5 (fun _ _ g h => h.tr g) (Grow.refl _) ?_
  clear hK hW hg5 hr5 hJ
  simp only [Act.put, List.setIfInBounds_toArray, List.set_cons_zero, List.set_cons_succ]
  apply frs_turn; exact rfl; exact rfl; (simp); (simp); (intro x1 x2; exact rfl)
  intro x1 x2 W5 hW hJ K hK
  simp only [FA.put2, Act.put, List.setIfInBounds_toArray, List.set_cons_zero, List.set_cons_succ]
  go_simp
  go_at_call 62
  refine int_any py _ HP.out.2.1 ?_
  intro r6 w6 hg6 hr6
  have R3 := Lib.hid (R3.out.gr (hJ.tr hg6))
  have R4 := Lib.hid (R4.out.gr (hJ.tr hg6))
  have R5 := Lib.hid (R5.out.gr (hJ.tr hg6))
  have R6 := Lib.hid hr6
  refine hK.out _ _ (fun W => Grow w6 W) hg6 (fun _ _ g h => h.tr g) (Grow.refl _) ?_
  clear hK hW hg6 hr6 hJ
  simp only [Act.put, List.setIfInBounds_toArray, List.set_cons_zero, List.set_cons_succ]
  apply frs_turn; exact rfl; exact rfl; (simp); (simp); (intro x1 x2; exact rfl)
  intro x1 x2 W5 hW hJ K hK
  simp only [FA.put2, Act.put, List.setIfInBounds_toArray, List.set_cons_zero, List.set_cons_succ]
  go_simp
  go_at_call 76
  refine sub_any qy py 4 4 _ _ _ _ _ (R5.out.gr hJ) (R6.out.gr hJ) (by omega) (by omega) ?_
  intro r7 w7 hg7 hr7
  obtain ⟨b1, b2, b3, b4, rfl⟩ := hr7.parts
  have LS7 : Hid (w.heap.size ≤ W5.heap.size) := by have h := hW.size; have := SZ.out; exact Nat.le_trans (by omega) h
  have R3 := Lib.hid (R3.out.gr (hJ.tr hg7))
  have R4 := Lib.hid (R4.out.gr (hJ.tr hg7))
  have R7 := Lib.hid hr7
  refine hK.out _ _ (fun W => Grow w7 W) hg7 (fun _ _ g h => h.tr g) (Grow.refl _) ?_
  clear hK hW hg7 hr7 hJ R5 R6
  simp only [Act.put, List.setIfInBounds_toArray, List.set_cons_zero, List.set_cons_succ]
  apply frs_turn; exact rfl; exact rfl; (simp); (simp); (intro x1 x2; exact rfl)
  intro x1 x2 W5 hW hJ K hK
  simp only [FA.put2, Act.put, List.setIfInBounds_toArray, List.set_cons_zero, List.set_cons_succ]
  go_simp
  go_at_call 59
  refine word_any 1 _ (by omega) ?_
  intro r8 w8 hg8 hr8
  obtain ⟨b5, b6, b7, b8, rfl⟩ := hr8.parts
  have LS8 : Hid (w.heap.size ≤ W5.heap.size) := by have h := hW.size; have := SZ.out; exact Nat.le_trans (by omega) h
  have R3 := Lib.hid (R3.out.gr (hJ.tr hg8))
  have R4 := Lib.hid (R4.out.gr (hJ.tr hg8))
  have R7 := Lib.hid (R7.out.gr (hJ.tr hg8))
  have R8 := Lib.hid hr8
  refine hK.out _ _ (fun W => Grow w8 W) hg8 (fun _ _ g h => h.tr g) (Grow.refl _) ?_
  clear hK hW hg8 hr8 hJ
  simp only [Act.put, List.setIfInBounds_toArray, List.set_cons_zero, List.set_cons_succ]
  apply frs_take; exact rfl; (simp); (simp); (intro x1 x2; exact rfl)
  · intro x1 x2 W' hW
    have fp := grow_blk hW FP.out
    have fq := grow_blk hW FQ.out
    have z0 := cell_of_row _ _ 0 _ _ (0, 0) fp
    have z1 := cell_of_row _ _ 1 _ _ (0, 0) fp
    have y0 := cell_of_row _ _ 0 _ _ (0, 0) fq
    have y1 := cell_of_row _ _ 1 _ _ (0, 0) fq
    clear hW fp fq
    simp only [FA.put2, Act.put, List.setIfInBounds_toArray, List.set_cons_zero, List.set_cons_succ]
    go_simp
    with_reducible rfl
  simp only [Act.put, List.setIfInBounds_toArray, List.set_cons_zero, List.set_cons_succ]
  refine frs_nil ?_
  intro c1 c2 V hV hJ hne hc1 hc2
  have RA : Hid ((⟨⟨a1, a2, a3, a4⟩, ⟨a5, a6, a7, a8⟩, ((qx - px : Int) : Rat)⟩ : RV).rd V (fun b => w.heap.size ≤ b) 5) := ⟨qx - px, 1, by decide, (divone _).symm, _, _, _, _, _, _, _, _, rfl, (R3.out.gr hJ).into fun b hb => by have := LS3.out; omega, ((R4.out.gr hJ).into fun b hb => by have := LS4.out; omega).up (by omega)⟩
  have RB : Hid ((⟨⟨b1, b2, b3, b4⟩, ⟨b5, b6, b7, b8⟩, ((qy - py : Int) : Rat)⟩ : RV).rd V (fun b => w.heap.size ≤ b) 5) := ⟨qy - py, 1, by decide, (divone _).symm, _, _, _, _, _, _, _, _, rfl, (R7.out.gr hJ).into fun b hb => by have := LS7.out; omega, ((R8.out.gr hJ).into fun b hb => by have := LS8.out; omega).up (by omega)⟩
  have GV : Hid (Grow wb V) := hV
  have FC1 : Hid (V.heap[c1]? = some (.cells #[.bool false, .slice none 0 0, .bool false, .slice none 0 0] 35 (0, 0))) := hc1.2
  have FC2 : Hid (V.heap[c2]? = some (.cells #[.bool false, .slice none 0 0, .bool false, .slice none 0 0] 35 (0, 0))) := hc2.2
  have N1 : BoxN V c1 := ⟨_, _, _, FC1.out, rat_noint _ _ _ _ _ _ _ _⟩
  have NE : Hid (c1 ≠ c2 ∧ c2 ≠ c1) := ⟨hne, fun e => hne e.symm⟩
  have LC : Hid (wb.heap.size ≤ c1 ∧ wb.heap.size ≤ c2) := ⟨hc1.1, hc2.1⟩
  refine ⟨Grow wb, fun _ h => h, hV, ?_⟩
  clear hV hne hc1 hc2 hJ R3 R4 R7 R8 LS1 LS3 LS4 LS7 LS8
  unfold ptrTo FA.put2
  simp only [Act.put, List.setIfInBounds_toArray, List.set_cons_zero, List.set_cons_succ, List.drop_succ_cons, List.drop_zero]
  have ub0 := FC1.out
  have uz0 := cell_of_row _ (c1) 0 _ _ (0, 0) ub0
  have ug0 := frozen_of_row _ (c1) 0 _ _ ub0
  have ub1 := blk_set ub0 0 (.bool a1)
  have uz1 := cell_of_row _ (c1) 1 _ _ (0, 0) ub1
  have ug1 := frozen_of_row _ (c1) 1 _ _ ub1
  have ub2 := blk_set ub1 1 (.slice a2 a3 a4)
  have uz2 := cell_of_row _ (c1) 2 _ _ (0, 0) ub2
  have ug2 := frozen_of_row _ (c1) 2 _ _ ub2
  have ub3 := blk_set ub2 2 (.bool a5)
  have uz3 := cell_of_row _ (c1) 3 _ _ (0, 0) ub3
  have ug3 := frozen_of_row _ (c1) 3 _ _ ub3
  have ub4 := blk_set ub3 3 (.slice a6 a7 a8)
  simp only [List.setIfInBounds_toArray, List.set_cons_zero, List.set_cons_succ] at uz0 uz1 uz2 uz3
  have uL := Lib.hid ub4
  clear ub0 ub1 ub2 ub3 ub4
  have FC2c : ((((V.setCell ⟨c1, 0, none⟩ (.bool a1)).setCell ⟨c1, 1, none⟩ (.slice a2 a3 a4)).setCell ⟨c1, 2, none⟩ (.bool a5)).setCell ⟨c1, 3, none⟩ (.slice a6 a7 a8)).heap[c2]? = some (.cells #[.bool false, .slice none 0 0, .bool false, .slice none 0 0] 35 (0, 0)) := (st4_other (W := V) (b := c1) (c := c2) NE.out.2 (.bool a1) (.slice a2 a3 a4) (.bool a5) (.slice a6 a7 a8)).trans FC2.out
  have vb0 := FC2c
  have vz0 := cell_of_row _ (c2) 0 _ _ (0, 0) vb0
  have vg0 := frozen_of_row _ (c2) 0 _ _ vb0
  have vb1 := blk_set vb0 0 (.bool b1)
  have vz1 := cell_of_row _ (c2) 1 _ _ (0, 0) vb1
  have vg1 := frozen_of_row _ (c2) 1 _ _ vb1
  have vb2 := blk_set vb1 1 (.slice b2 b3 b4)
  have vz2 := cell_of_row _ (c2) 2 _ _ (0, 0) vb2
  have vg2 := frozen_of_row _ (c2) 2 _ _ vb2
  have vb3 := blk_set vb2 2 (.bool b5)
  have vz3 := cell_of_row _ (c2) 3 _ _ (0, 0) vb3
  have vg3 := frozen_of_row _ (c2) 3 _ _ vb3
  have vb4 := blk_set vb3 3 (.slice b6 b7 b8)
  simp only [List.setIfInBounds_toArray, List.set_cons_zero, List.set_cons_succ] at vz0 vz1 vz2 vz3
  have vL := Lib.hid vb4
  clear vb0 vb1 vb2 vb3 vb4
  have FC1 : Hid (((((((((V.setCell ⟨c1, 0, none⟩ (.bool a1)).setCell ⟨c1, 1, none⟩ (.slice a2 a3 a4)).setCell ⟨c1, 2, none⟩ (.bool a5)).setCell ⟨c1, 3, none⟩ (.slice a6 a7 a8)).setCell ⟨c2, 0, none⟩ (.bool b1)).setCell ⟨c2, 1, none⟩ (.slice b2 b3 b4)).setCell ⟨c2, 2, none⟩ (.bool b5)).setCell ⟨c2, 3, none⟩ (.slice b6 b7 b8)).heap[c1]? = some (.cells #[.bool a1, .slice a2 a3 a4, .bool a5, .slice a6 a7 a8] 35 (0, 0))) := (st4_other (W := ((((V.setCell ⟨c1, 0, none⟩ (.bool a1)).setCell ⟨c1, 1, none⟩ (.slice a2 a3 a4)).setCell ⟨c1, 2, none⟩ (.bool a5)).setCell ⟨c1, 3, none⟩ (.slice a6 a7 a8))) (b := c2) (c := c1) NE.out.1 (.bool b1) (.slice b2 b3 b4) (.bool b5) (.slice b6 b7 b8)).trans uL.out
  have FC2n : Hid (((((((((V.setCell ⟨c1, 0, none⟩ (.bool a1)).setCell ⟨c1, 1, none⟩ (.slice a2 a3 a4)).setCell ⟨c1, 2, none⟩ (.bool a5)).setCell ⟨c1, 3, none⟩ (.slice a6 a7 a8)).setCell ⟨c2, 0, none⟩ (.bool b1)).setCell ⟨c2, 1, none⟩ (.slice b2 b3 b4)).setCell ⟨c2, 2, none⟩ (.bool b5)).setCell ⟨c2, 3, none⟩ (.slice b6 b7 b8)).heap[c2]? = some (.cells #[.bool b1, .slice b2 b3 b4, .bool b5, .slice b6 b7 b8] 35 (0, 0))) := vL.out
  have N2 : BoxN V c2 := ⟨_, _, _, FC2.out, rat_noint _ _ _ _ _ _ _ _⟩
  have G1 : Hid (Grow wb ((((V.setCell ⟨c1, 0, none⟩ (.bool a1)).setCell ⟨c1, 1, none⟩ (.slice a2 a3 a4)).setCell ⟨c1, 2, none⟩ (.bool a5)).setCell ⟨c1, 3, none⟩ (.slice a6 a7 a8))) := GV.out.st4 LC.out.1 _ _ _ _
  have G2 : Hid (Grow wb ((((((((V.setCell ⟨c1, 0, none⟩ (.bool a1)).setCell ⟨c1, 1, none⟩ (.slice a2 a3 a4)).setCell ⟨c1, 2, none⟩ (.bool a5)).setCell ⟨c1, 3, none⟩ (.slice a6 a7 a8)).setCell ⟨c2, 0, none⟩ (.bool b1)).setCell ⟨c2, 1, none⟩ (.slice b2 b3 b4)).setCell ⟨c2, 2, none⟩ (.bool b5)).setCell ⟨c2, 3, none⟩ (.slice b6 b7 b8))) := (GV.out.st4 LC.out.1 _ _ _ _).st4 LC.out.2 _ _ _ _
  have RA : Hid ((⟨⟨a1, a2, a3, a4⟩, ⟨a5, a6, a7, a8⟩, ((qx - px : Int) : Rat)⟩ : RV).rd ((((((((V.setCell ⟨c1, 0, none⟩ (.bool a1)).setCell ⟨c1, 1, none⟩ (.slice a2 a3 a4)).setCell ⟨c1, 2, none⟩ (.bool a5)).setCell ⟨c1, 3, none⟩ (.slice a6 a7 a8)).setCell ⟨c2, 0, none⟩ (.bool b1)).setCell ⟨c2, 1, none⟩ (.slice b2 b3 b4)).setCell ⟨c2, 2, none⟩ (.bool b5)).setCell ⟨c2, 3, none⟩ (.slice b6 b7 b8)) (fun b => w.heap.size ≤ b) 5) := st4_rv (st4_rv RA.out N1 _ _ _ _ (sl_noint _ _ _) (sl_noint _ _ _)) (N2.st4 c1 _ _ _ _ (sl_noint _ _ _) (sl_noint _ _ _)) _ _ _ _ (sl_noint _ _ _) (sl_noint _ _ _)
  have RB : Hid ((⟨⟨b1, b2, b3, b4⟩, ⟨b5, b6, b7, b8⟩, ((qy - py : Int) : Rat)⟩ : RV).rd ((((((((V.setCell ⟨c1, 0, none⟩ (.bool a1)).setCell ⟨c1, 1, none⟩ (.slice a2 a3 a4)).setCell ⟨c1, 2, none⟩ (.bool a5)).setCell ⟨c1, 3, none⟩ (.slice a6 a7 a8)).setCell ⟨c2, 0, none⟩ (.bool b1)).setCell ⟨c2, 1, none⟩ (.slice b2 b3 b4)).setCell ⟨c2, 2, none⟩ (.bool b5)).setCell ⟨c2, 3, none⟩ (.slice b6 b7 b8)) (fun b => w.heap.size ≤ b) 5) := st4_rv (st4_rv RB.out N1 _ _ _ _ (sl_noint _ _ _) (sl_noint _ _ _)) (N2.st4 c1 _ _ _ _ (sl_noint _ _ _) (sl_noint _ _ _)) _ _ _ _ (sl_noint _ _ _) (sl_noint _ _ _)
  clear FC2c FC2 uL vL N1 N2 GV
  apply lext_turn; exact rfl; exact rfl; exact rfl; intro K hK; go_simp; skip
  refine hK.out _ _ G1.out ?_
  clear hK G1
  try simp only [Act.put, List.setIfInBounds_toArray, List.set_cons_zero, List.set_cons_succ]
  refine lext_nil ?_
  go_upto_region 2 with fail
  clear uz0 ug0 uz1 ug1 uz2 ug2 uz3 ug3 vz0 vg0 vz1 vg1 vz2 vg2 vz3 vg3
  generalize ((((((((V.setCell ⟨c1, 0, none⟩ (.bool a1)).setCell ⟨c1, 1, none⟩ (.slice a2 a3 a4)).setCell ⟨c1, 2, none⟩ (.bool a5)).setCell ⟨c1, 3, none⟩ (.slice a6 a7 a8)).setCell ⟨c2, 0, none⟩ (.bool b1)).setCell ⟨c2, 1, none⟩ (.slice b2 b3 b4)).setCell ⟨c2, 2, none⟩ (.bool b5)).setCell ⟨c2, 3, none⟩ (.slice b6 b7 b8)) = w9 at *
  have G9 := Lib.hid (G2.out.dr)
  have HG := Lib.hid ((Grow.refl w9).dr)
  have RA := Lib.hid (RA.out.gr HG.out)
  have RB := Lib.hid (RB.out.gr HG.out)
  have FC1 := Lib.hid (grow_blk HG.out FC1.out)
  have FC2 := Lib.hid (grow_blk HG.out FC2n.out)
  have FP := Lib.hid (grow_blk G9.out FP.out)
  have FT := Lib.hid (grow_blk G9.out FT.out)
  have F0 := Lib.hid (grow_blk G9.out F0.out)
  have RT' := Lib.hid (HT.out.gr (GW.out.tr G9.out))
  have GW := Lib.hid (GW.out.tr G9.out)
  clear HG G2 G9 FC2n HT SZ FQ LC NE
  refine wp_region_lexT (Grow w9.drew) ((Grow.refl _)) 12 [0, 1, 3, 4, 7, 8, 10, 11, 2, 5, 6, 9] (by kernel_rfl) (by kernel_rfl) (by intro c a d v w h; cases d <;> exact h) ?_
  iterate 8 (apply lext_take; exact rfl; exact rfl; (intro W hW; have fp := grow_blk hW FP.out; have ft := grow_blk hW FT.out; have fa := grow_blk hW FC1.out; have fb := grow_blk hW FC2.out; have z0 := cell_of_row _ _ 0 _ _ (0, 0) fp; have z1 := cell_of_row _ _ 1 _ _ (0, 0) fp; have t0 := cell_of_row _ _ 0 _ _ (0, 0) ft; have y0 := cell_of_row _ _ 0 _ _ (0, 0) fa; have x0 := cell_of_row _ _ 0 _ _ (0, 0) fb; have t1 := cell_of_row _ _ 1 _ _ (0, 0) ft; have y1 := cell_of_row _ _ 1 _ _ (0, 0) fa; have x1 := cell_of_row _ _ 1 _ _ (0, 0) fb; have t2 := cell_of_row _ _ 2 _ _ (0, 0) ft; have y2 := cell_of_row _ _ 2 _ _ (0, 0) fa; have x2 := cell_of_row _ _ 2 _ _ (0, 0) fb; have t3 := cell_of_row _ _ 3 _ _ (0, 0) ft; have y3 := cell_of_row _ _ 3 _ _ (0, 0) fa; have x3 := cell_of_row _ _ 3 _ _ (0, 0) fb; clear fp ft fa fb; (try clear hW); go_simp; with_reducible rfl); try simp only [Act.put, List.setIfInBounds_toArray, List.set_cons_zero, List.set_cons_succ])
  generalize w9.drew = wc at *
  clear FP FC1 FC2 FT
  apply lext_turn; exact rfl; exact rfl; exact rfl; intro K hK; go_simp; go_at_call 26; refine whole_q px _ HP.out.1 ?_; intro rc w1 hg1 hq1 hr1
  obtain ⟨⟨c1, c2, c3, c4⟩, ⟨c5, c6, c7, c8⟩, cq⟩ := rc
  have G1 := Lib.hid hg1
  have RC := Lib.hid hr1
  have QC := Lib.hid hq1
  have RA := Lib.hid (RA.out.gr hg1)
  have RB := Lib.hid (RB.out.gr hg1)
  have RT' := Lib.hid (RT'.out.gr hg1)
  unfold RV.cells
  dsimp only at QC ⊢
  refine hK.out _ _ G1.out ?_
  clear hK hg1 hq1 hr1
  try simp only [Act.put, List.setIfInBounds_toArray, List.set_cons_zero, List.set_cons_succ]
  apply lext_turn; exact rfl; exact rfl; exact rfl; intro K hK; go_simp; go_at_call 78; refine times_q (⟨⟨a1, a2, a3, a4⟩, ⟨a5, a6, a7, a8⟩, ((qx - px : Int) : Rat)⟩ : RV) (⟨⟨t1, t2, t3, t4⟩, ⟨t5, t6, t7, t8⟩, tq⟩ : RV) 5 k _ _ w1 RA.out RT'.out (by omega) (by have := HK.out; omega) ?_; intro rd w2 hg2 hq2 hr2
  obtain ⟨⟨d1, d2, d3, d4⟩, ⟨d5, d6, d7, d8⟩, dq⟩ := rd
  have G2 := Lib.hid (G1.out.tr hg2)
  have RD := Lib.hid hr2
  have QD := Lib.hid hq2
  have RC := Lib.hid (RC.out.gr hg2)
  have RB := Lib.hid (RB.out.gr hg2)
  have RT' := Lib.hid (RT'.out.gr hg2)
  unfold RV.cells
  dsimp only at QD ⊢
  refine hK.out _ _ G2.out ?_
  clear hK hg2 hq2 hr2 G1
  try simp only [Act.put, List.setIfInBounds_toArray, List.set_cons_zero, List.set_cons_succ]
  apply lext_turn; exact rfl; exact rfl; exact rfl; intro K hK; go_simp; go_at_call 77; refine plus_q (⟨⟨c1, c2, c3, c4⟩, ⟨c5, c6, c7, c8⟩, cq⟩ : RV) (⟨⟨d1, d2, d3, d4⟩, ⟨d5, d6, d7, d8⟩, dq⟩ : RV) 4 (5 + k) _ _ w2 RC.out RD.out (by omega) (by have := HK.out; omega) ?_; intro re w3 hg3 hq3 hr3
  obtain ⟨⟨e1, e2, e3, e4⟩, ⟨e5, e6, e7, e8⟩, eq⟩ := re
  have LS2 : Hid (w.heap.size ≤ w2.heap.size) := (GW.out.tr G2.out).size
  have G3 := Lib.hid (G2.out.tr hg3)
  have RE := Lib.hid ((hr3.into (T := fun b => w.heap.size ≤ b) fun b hb => by have := LS2.out; omega).up (k' := k + 10) (by omega))
  have QE := Lib.hid hq3
  have RB := Lib.hid (RB.out.gr hg3)
  have RT' := Lib.hid (RT'.out.gr hg3)
  unfold RV.cells
  dsimp only at QE ⊢
  refine hK.out _ _ G3.out ?_
  clear hK hg3 hq3 hr3 G2 RC RD LS2
  try simp only [Act.put, List.setIfInBounds_toArray, List.set_cons_zero, List.set_cons_succ]
  apply lext_turn; exact rfl; exact rfl; exact rfl; intro K hK; go_simp; go_at_call 26; refine whole_q py _ HP.out.2.1 ?_; intro rf w4 hg4 hq4 hr4
  obtain ⟨⟨f1, f2, f3, f4⟩, ⟨f5, f6, f7, f8⟩, fq⟩ := rf
  have G4 := Lib.hid (G3.out.tr hg4)
  have RF := Lib.hid hr4
  have QF := Lib.hid hq4
  have RE := Lib.hid (RE.out.gr hg4)
  have RB := Lib.hid (RB.out.gr hg4)
  have RT' := Lib.hid (RT'.out.gr hg4)
  unfold RV.cells
  dsimp only at QF ⊢
  refine hK.out _ _ G4.out ?_
  clear hK hg4 hq4 hr4 G3
  try simp only [Act.put, List.setIfInBounds_toArray, List.set_cons_zero, List.set_cons_succ]
  refine lext_nil ?_
  simp only [List.drop_succ_cons, List.drop_zero]
  go_wp2_with fail
  go_at_call 78
  refine times_q (⟨⟨b1, b2, b3, b4⟩, ⟨b5, b6, b7, b8⟩, ((qy - py : Int) : Rat)⟩ : RV) (⟨⟨t1, t2, t3, t4⟩, ⟨t5, t6, t7, t8⟩, tq⟩ : RV) 5 k _ _ w4 RB.out RT'.out (by omega) (by have := HK.out; omega) ?_
  intro rg w5 hg5 hq5 hr5
  obtain ⟨⟨g1, g2, g3, g4⟩, ⟨g5, g6, g7, g8⟩, gq⟩ := rg
  have G5 := Lib.hid (G4.out.tr hg5)
  have RG := Lib.hid hr5
  have QG := Lib.hid hq5
  have RE := Lib.hid (RE.out.gr hg5)
  have RF := Lib.hid (RF.out.gr hg5)
  clear hg5 hq5 hr5 G4
  unfold RV.cells
  dsimp only at QG ⊢
  go_wp2_with fail
  go_at_call 77
  refine plus_q (⟨⟨f1, f2, f3, f4⟩, ⟨f5, f6, f7, f8⟩, fq⟩ : RV) (⟨⟨g1, g2, g3, g4⟩, ⟨g5, g6, g7, g8⟩, gq⟩ : RV) 4 (5 + k) _ _ w5 RF.out RG.out (by omega) (by have := HK.out; omega) ?_
  intro rh w6 hg6 hq6 hr6
  obtain ⟨⟨h1, h2, h3, h4⟩, ⟨h5, h6, h7, h8⟩, hq⟩ := rh
  have LS2 : Hid (w.heap.size ≤ w5.heap.size) := (GW.out.tr G5.out).size
  have RH := Lib.hid ((hr6.into (T := fun b => w.heap.size ≤ b) fun b hb => by have := LS2.out; omega).up (k' := k + 10) (by omega))
  have QH := Lib.hid hq6
  have RE := Lib.hid (RE.out.gr hg6)
  have F0 := Lib.hid (grow_blk (G5.out.tr hg6) F0.out)
  have GW := Lib.hid (GW.out.tr (G5.out.tr hg6))
  clear hg6 hq6 hr6 G5 RF RG LS2 RT' RA RB
  unfold RV.cells
  dsimp only at QH ⊢
  have ub0 := F0.out
  have uz0 := cell_of_row _ (w.heap.size + 1 + 1 + 1) 0 _ _ (0, 0) ub0
  have ug0 := frozen_of_row _ (w.heap.size + 1 + 1 + 1) 0 _ _ ub0
  have ub1 := blk_set ub0 0 (.bool e1)
  have uz1 := cell_of_row _ (w.heap.size + 1 + 1 + 1) 1 _ _ (0, 0) ub1
  have ug1 := frozen_of_row _ (w.heap.size + 1 + 1 + 1) 1 _ _ ub1
  have ub2 := blk_set ub1 1 (.slice e2 e3 e4)
  have uz2 := cell_of_row _ (w.heap.size + 1 + 1 + 1) 2 _ _ (0, 0) ub2
  have ug2 := frozen_of_row _ (w.heap.size + 1 + 1 + 1) 2 _ _ ub2
  have ub3 := blk_set ub2 2 (.bool e5)
  have uz3 := cell_of_row _ (w.heap.size + 1 + 1 + 1) 3 _ _ (0, 0) ub3
  have ug3 := frozen_of_row _ (w.heap.size + 1 + 1 + 1) 3 _ _ ub3
  have ub4 := blk_set ub3 3 (.slice e6 e7 e8)
  have uz4 := cell_of_row _ (w.heap.size + 1 + 1 + 1) 4 _ _ (0, 0) ub4
  have ug4 := frozen_of_row _ (w.heap.size + 1 + 1 + 1) 4 _ _ ub4
  have ub5 := blk_set ub4 4 (.bool h1)
  have uz5 := cell_of_row _ (w.heap.size + 1 + 1 + 1) 5 _ _ (0, 0) ub5
  have ug5 := frozen_of_row _ (w.heap.size + 1 + 1 + 1) 5 _ _ ub5
  have ub6 := blk_set ub5 5 (.slice h2 h3 h4)
  have uz6 := cell_of_row _ (w.heap.size + 1 + 1 + 1) 6 _ _ (0, 0) ub6
  have ug6 := frozen_of_row _ (w.heap.size + 1 + 1 + 1) 6 _ _ ub6
  have ub7 := blk_set ub6 6 (.bool h5)
  have uz7 := cell_of_row _ (w.heap.size + 1 + 1 + 1) 7 _ _ (0, 0) ub7
  have ug7 := frozen_of_row _ (w.heap.size + 1 + 1 + 1) 7 _ _ ub7
  have ub8 := blk_set ub7 7 (.slice h6 h7 h8)
  simp only [List.setIfInBounds_toArray, List.set_cons_zero, List.set_cons_succ] at uz0 uz1 uz2 uz3 uz4 uz5 uz6 uz7
  have uL := Lib.hid ub8
  clear ub0 ub1 ub2 ub3 ub4 ub5 ub6 ub7 ub8
  have RL : ((((((((w6.setCell ⟨w.heap.size + 1 + 1 + 1, 0, none⟩ (.bool e1)).setCell ⟨w.heap.size + 1 + 1 + 1, 1, none⟩ (.slice e2 e3 e4)).setCell ⟨w.heap.size + 1 + 1 + 1, 2, none⟩ (.bool e5)).setCell ⟨w.heap.size + 1 + 1 + 1, 3, none⟩ (.slice e6 e7 e8)).setCell ⟨w.heap.size + 1 + 1 + 1, 4, none⟩ (.bool h1)).setCell ⟨w.heap.size + 1 + 1 + 1, 5, none⟩ (.slice h2 h3 h4)).setCell ⟨w.heap.size + 1 + 1 + 1, 6, none⟩ (.bool h5)).setCell ⟨w.heap.size + 1 + 1 + 1, 7, none⟩ (.slice h6 h7 h8)).heap[w.heap.size + 1 + 1 + 1]? = some (.cells #[.bool e1, .slice e2 e3 e4, .bool e5, .slice e6 e7 e8, .bool h1, .slice h2 h3 h4, .bool h5, .slice h6 h7 h8] 37 (0, 0)) := uL.out
  have y0 := cell_of_row _ (w.heap.size + 1 + 1 + 1) 0 _ _ (0, 0) RL
  have y1 := cell_of_row _ (w.heap.size + 1 + 1 + 1) 1 _ _ (0, 0) RL
  have y2 := cell_of_row _ (w.heap.size + 1 + 1 + 1) 2 _ _ (0, 0) RL
  have y3 := cell_of_row _ (w.heap.size + 1 + 1 + 1) 3 _ _ (0, 0) RL
  have y4 := cell_of_row _ (w.heap.size + 1 + 1 + 1) 4 _ _ (0, 0) RL
  have y5 := cell_of_row _ (w.heap.size + 1 + 1 + 1) 5 _ _ (0, 0) RL
  have y6 := cell_of_row _ (w.heap.size + 1 + 1 + 1) 6 _ _ (0, 0) RL
  have y7 := cell_of_row _ (w.heap.size + 1 + 1 + 1) 7 _ _ (0, 0) RL
  have NB : BoxN w6 (w.heap.size + 1 + 1 + 1) := ⟨_, _, _, F0.out, pl_noint _ _ _ _ _ _ _ _ _ _ _ _ _ _ _ _⟩
  have REF : Hid ((⟨⟨e1, e2, e3, e4⟩, ⟨e5, e6, e7, e8⟩, eq⟩ : RV).rd ((((((((w6.setCell ⟨w.heap.size + 1 + 1 + 1, 0, none⟩ (.bool e1)).setCell ⟨w.heap.size + 1 + 1 + 1, 1, none⟩ (.slice e2 e3 e4)).setCell ⟨w.heap.size + 1 + 1 + 1, 2, none⟩ (.bool e5)).setCell ⟨w.heap.size + 1 + 1 + 1, 3, none⟩ (.slice e6 e7 e8)).setCell ⟨w.heap.size + 1 + 1 + 1, 4, none⟩ (.bool h1)).setCell ⟨w.heap.size + 1 + 1 + 1, 5, none⟩ (.slice h2 h3 h4)).setCell ⟨w.heap.size + 1 + 1 + 1, 6, none⟩ (.bool h5)).setCell ⟨w.heap.size + 1 + 1 + 1, 7, none⟩ (.slice h6 h7 h8)) (fun b => w.heap.size ≤ b) (k + 10)) := RE.out.st8 NB _ _ _ _ _ _ _ _ (sl_noint _ _ _) (sl_noint _ _ _) (sl_noint _ _ _) (sl_noint _ _ _)
  have RHF : Hid ((⟨⟨h1, h2, h3, h4⟩, ⟨h5, h6, h7, h8⟩, hq⟩ : RV).rd ((((((((w6.setCell ⟨w.heap.size + 1 + 1 + 1, 0, none⟩ (.bool e1)).setCell ⟨w.heap.size + 1 + 1 + 1, 1, none⟩ (.slice e2 e3 e4)).setCell ⟨w.heap.size + 1 + 1 + 1, 2, none⟩ (.bool e5)).setCell ⟨w.heap.size + 1 + 1 + 1, 3, none⟩ (.slice e6 e7 e8)).setCell ⟨w.heap.size + 1 + 1 + 1, 4, none⟩ (.bool h1)).setCell ⟨w.heap.size + 1 + 1 + 1, 5, none⟩ (.slice h2 h3 h4)).setCell ⟨w.heap.size + 1 + 1 + 1, 6, none⟩ (.bool h5)).setCell ⟨w.heap.size + 1 + 1 + 1, 7, none⟩ (.slice h6 h7 h8)) (fun b => w.heap.size ≤ b) (k + 10)) := RH.out.st8 NB _ _ _ _ _ _ _ _ (sl_noint _ _ _) (sl_noint _ _ _) (sl_noint _ _ _) (sl_noint _ _ _)
  have GF : Hid (Grow w ((((((((w6.setCell ⟨w.heap.size + 1 + 1 + 1, 0, none⟩ (.bool e1)).setCell ⟨w.heap.size + 1 + 1 + 1, 1, none⟩ (.slice e2 e3 e4)).setCell ⟨w.heap.size + 1 + 1 + 1, 2, none⟩ (.bool e5)).setCell ⟨w.heap.size + 1 + 1 + 1, 3, none⟩ (.slice e6 e7 e8)).setCell ⟨w.heap.size + 1 + 1 + 1, 4, none⟩ (.bool h1)).setCell ⟨w.heap.size + 1 + 1 + 1, 5, none⟩ (.slice h2 h3 h4)).setCell ⟨w.heap.size + 1 + 1 + 1, 6, none⟩ (.bool h5)).setCell ⟨w.heap.size + 1 + 1 + 1, 7, none⟩ (.slice h6 h7 h8))) := GW.out.st8 (by omega) _ _ _ _ _ _ _ _
  clear RL uL NB
  go_wp2
  exact bodyPost_ret (v := .agg #[.bool e1, .slice e2 e3 e4, .bool e5, .slice e6 e7 e8, .bool h1, .slice h2 h3 h4, .bool h5, .slice h6 h7 h8]) (by simp [results, Try.f45, go_sem, y0, y1, y2, y3, y4, y5, y6, y7]) rfl (HR.out ⟨(⟨⟨e1, e2, e3, e4⟩, ⟨e5, e6, e7, e8⟩, eq⟩ : RV), (⟨⟨h1, h2, h3, h4⟩, ⟨h5, h6, h7, h8⟩, hq⟩ : RV)⟩ _ GF.out (by rw [QE.out, QH.out, QC.out, QD.out, QF.out, QG.out]) ⟨REF.out, RHF.out⟩)
end Go.Proofs.Ytjcgkhcbdbbdkaa
