import Derived.Test.YteeeeddeacepmaaGreatDoorLValA
import Derived.Laws.Tables
namespace Go.Proofs.YteeeeddeacepmaaGreatDoor
set_option maxRecDepth 100000
open Go.RowKit Go.Lib B
structure PV where
 x : RV
 y : RV
def PV.cells (p : PV) : List Value := [.bool p.x.nu.p, .slice p.x.nu.A p.x.nu.n p.x.nu.c, .bool p.x.de.p, .slice p.x.de.A p.x.de.n p.x.de.c, .bool p.y.nu.p, .slice p.y.nu.A p.y.nu.n p.y.nu.c, .bool p.y.de.p, .slice p.y.de.A p.y.de.n p.y.de.c]
theorem PV.cells_len (p : PV) : p.cells.length = 8 := rfl
def PV.q (p : PV) : PtQ := ⟨p.x.q, p.y.q⟩
def PV.rd (p : PV) (w : World) (S : Nat -> Prop) (k : Nat) : Prop := p.x.rd w S k /\ p.y.rd w S k
theorem PV.rd.gr {p : PV} {w w' : World} {S : Nat -> Prop} {k : Nat} (h : p.rd w S k) (hg : Grow w w') : p.rd w' S k := ⟨h.1.gr hg, h.2.gr hg⟩
theorem PV.rd.into {p : PV} {w : World} {S T : Nat -> Prop} {k : Nat} (h : p.rd w S k) (hk : ∀ b, S b -> T b) : p.rd w T k := ⟨h.1.into hk, h.2.into hk⟩
theorem PV.rd.up {p : PV} {w : World} {S : Nat -> Prop} {k k' : Nat} (h : p.rd w S k) (hk : k <= k') : p.rd w S k' := ⟨h.1.up hk, h.2.up hk⟩
theorem PV.rd.both {p : PV} {w : World} {S : Nat -> Prop} {k : Nat} (h : p.rd w S k) : p.rd w (fun b => S b /\ b < w.heap.size) k := ⟨h.1.both, h.2.both⟩
def st8 (W : World) (b : Nat) (u0 u1 u2 u3 u4 u5 u6 u7 : Value) : World := (((((((W.setCell ⟨b, 0, none⟩ u0).setCell ⟨b, 1, none⟩ u1).setCell ⟨b, 2, none⟩ u2).setCell ⟨b, 3, none⟩ u3).setCell ⟨b, 4, none⟩ u4).setCell ⟨b, 5, none⟩ u5).setCell ⟨b, 6, none⟩ u6).setCell ⟨b, 7, none⟩ u7
theorem Grow.st8 {w W : World} {b : Nat} (h : Grow w W) (hb : w.heap.size <= b) (u0 u1 u2 u3 u4 u5 u6 u7 : Value) : Grow w (st8 W b u0 u1 u2 u3 u4 u5 u6 u7) :=
 (((((((h.set (p := ⟨b, 0, none⟩) hb u0).set (p := ⟨b, 1, none⟩) hb u1).set (p := ⟨b, 2, none⟩) hb u2).set (p := ⟨b, 3, none⟩) hb u3).set (p := ⟨b, 4, none⟩) hb u4).set (p := ⟨b, 5, none⟩) hb u5).set (p := ⟨b, 6, none⟩) hb u6).set (p := ⟨b, 7, none⟩) hb u7
theorem RV.rd.st8 {r : RV} {W : World} {S : Nat -> Prop} {k B : Nat} (h : r.rd W S k) (hB : BoxN W B) (a : Bool) (b : Value) (c : Bool) (d : Value) (a' : Bool) (b' : Value) (c' : Bool) (d' : Value) (hb : ∀ k n, b ≠ .int k n) (hd : ∀ k n, d ≠ .int k n) (hb' : ∀ k n, b' ≠ .int k n) (hd' : ∀ k n, d' ≠ .int k n) :
  r.rd (st8 W B (.bool a) b (.bool c) d (.bool a') b' (.bool c') d') S k := by
 have n1 : ∀ (x : Bool) k n, Value.bool x ≠ .int k n := fun _ _ _ e => by cases e
 have b1 := hB.set B 0 (n1 a); have b2 := b1.set B 1 hb; have b3 := b2.set B 2 (n1 c); have b4 := b3.set B 3 hd; have b5 := b4.set B 4 (n1 a'); have b6 := b5.set B 5 hb'; have b7 := b6.set B 6 (n1 c'); have _ := hd'; exact (((((((h.put hB _).put b1 _).put b2 _).put b3 _).put b4 _).put b5 _).put b6 _).put b7 _
theorem BoxN.st8 {W : World} {B : Nat} (h : BoxN W B) (C : Nat) (a : Bool) (b : Value) (c : Bool) (d : Value) (a' : Bool) (b' : Value) (c' : Bool) (d' : Value) (hb : ∀ k n, b ≠ .int k n) (hd : ∀ k n, d ≠ .int k n) (hb' : ∀ k n, b' ≠ .int k n) (hd' : ∀ k n, d' ≠ .int k n) :
  BoxN (st8 W C (.bool a) b (.bool c) d (.bool a') b' (.bool c') d') B := by
 have n1 : ∀ (x : Bool) k n, Value.bool x ≠ .int k n := fun _ _ _ e => by cases e
 exact (((((((h.set C 0 (n1 a)).set C 1 hb).set C 2 (n1 c)).set C 3 hd).set C 4 (n1 a')).set C 5 hb').set C 6 (n1 c')).set C 7 hd'
theorem pl_noint (p : Bool) (A : Option Addr) (x c : Nat) (p' : Bool) (A' : Option Addr) (x' c' : Nat) (q : Bool) (B : Option Addr) (y d : Nat) (q' : Bool) (B' : Option Addr) (y' d' : Nat) : ∀ (j : Nat) k n, (#[Value.bool p, .slice A x c, .bool p', .slice A' x' c', .bool q, .slice B y d, .bool q', .slice B' y' d'] : Array Value)[j]? ≠ some (.int k n) := by
 intro j k n h; rcases j with _ | _ | _ | _ | _ | _ | _ | _ | j <;> simp at h
set_option maxHeartbeats 3000000 in
theorem at24_any (p : Pt) (w : World) (hp : p.ok) {R : Ending -> World -> Prop}
  (hR : ∀ (r : PV) w', Grow w w' -> r.q = p.pq -> r.rd w' (fun b => w.heap.size <= b) 4 -> R (.returned (.agg r.cells.toArray)) w') :
  Calls Tryz.prog 8 #[.agg p.cells.toArray] w R := by
 have HR := Lh hR; clear hR; obtain ⟨px, py⟩ := p; obtain ⟨hx, hy⟩ := hp; have HP := Lh (And.intro hx hy); clear hx hy; dsimp only at HP; unfold Pt.cells Pt.pq at *; unfold PV.cells PV.q at HR; dsimp only at HR ⊢
 obtain ⟨wa, hwa⟩ : ∃ wa, wa = (w.alloc (.cells #[.int .i64 px, .int .i64 py] 36)).alloc (.cells #[.bool false, .slice none 0 0, .bool false, .slice none 0 0, .bool false, .slice none 0 0, .bool false, .slice none 0 0] 44) := ⟨_, rfl⟩
 have GA : Hid (Grow w wa) := by subst hwa; exact ((Grow.refl w).al _).al _
 have FP : Hid (wa.heap[w.heap.size]? = some (.cells #[.int .i64 px, .int .i64 py] 36 (0, 0))) := by
  subst hwa; exact blk_al w _ _ ((Grow.refl _).al _)
 have F0 : Hid (wa.heap[w.heap.size + 1]? = some (.cells #[.bool false, .slice none 0 0, .bool false, .slice none 0 0, .bool false, .slice none 0 0, .bool false, .slice none 0 0] 44 (0, 0))) := by
  subst hwa; have := blk_al (w.alloc (.cells #[.int .i64 px, .int .i64 py] 36)) #[.bool false, .slice none 0 0, .bool false, .slice none 0 0, .bool false, .slice none 0 0, .bool false, .slice none 0 0] 44 (Grow.refl _)
  rwa [World.size_alloc] at this
 have SZ : Hid (wa.heap.size = w.heap.size + 2) := by
  subst hwa; show _ = _; simp only [World.size_alloc]
 go_enter Tryz.func8, Tryz.ntmps8
 go_wp2_with fail
 rw [<- hwa]; clear hwa; have G0 := Lh ((Grow.refl wa).dr); have FP := Lh (grow_blk G0.out FP.out); have F0 := Lh (grow_blk G0.out F0.out); have GA := Lh (GA.out.tr G0.out); have SZ : Hid (wa.drew.heap.size = w.heap.size + 2) := SZ.out; clear G0; refine wp_region_lexT (Grow wa.drew) ((Grow.refl _)) 5 [0, 1, 3, 4, 2] (by kernel_rfl) (by kernel_rfl) (by intro c a d v w h; cases d <;> exact h) ?_
 iterate 4 (apply lext_take; exact rfl; exact rfl; (intro W hW; have fp := grow_blk hW FP.out; have z0 := cell_of_row _ _ 0 _ _ (0, 0) fp; have z1 := cell_of_row _ _ 1 _ _ (0, 0) fp; clear fp; (try clear hW); go_simp; with_reducible rfl); try simp only [Act.put, sA, sZ, sS])
 generalize wa.drew = wb at *; apply lext_turn; exact rfl; exact rfl; exact rfl; intro K hK; go_simp; go_at_call 12; refine whole_q px _ HP.out.1 ?_; intro rx w1 hg1 hq1 hr1; obtain ⟨⟨a1, a2, a3, a4⟩, ⟨a5, a6, a7, a8⟩, aq⟩ := rx; have G1 := Lh hg1; have R1 := Lh (hr1.into (T := fun b => w.heap.size <= b) fun b hb => by have := SZ.out; omega); have Q1 := Lh hq1; unfold RV.cells; dsimp only at Q1 ⊢; refine hK.out _ _ G1.out ?_; clear hK hg1 hq1 hr1
 try simp only [Act.put, sA, sZ, sS]
 refine lext_nil ?_; simp only [List.drop_succ_cons, List.drop_zero]; go_wp2_with fail
 go_at_call 12; refine whole_q py _ HP.out.2 ?_; intro ry w2 hg2 hq2 hr2; obtain ⟨⟨b1, b2, b3, b4⟩, ⟨b5, b6, b7, b8⟩, bq⟩ := ry; have G2 := Lh (G1.out.tr hg2); have R1 := Lh (R1.out.gr hg2); have LS : Hid (w.heap.size <= w1.heap.size) := (GA.out.tr G1.out).size; have R2 := Lh (hr2.into (T := fun b => w.heap.size <= b) fun b hb => by have := LS.out; omega); have Q2 := Lh hq2; have F0 := Lh (grow_blk G2.out F0.out); have GW := Lh (GA.out.tr G2.out); clear hg2 hq2 hr2 G1 G2 LS; unfold RV.cells; dsimp only at Q2 ⊢; have ub0 := F0.out
 have uz0 := cell_of_row _ (w.heap.size + 1) 0 _ _ (0, 0) ub0; have ug0 := frozen_of_row _ (w.heap.size + 1) 0 _ _ ub0; have ub1 := blk_set ub0 0 (.bool a1); have uz1 := cell_of_row _ (w.heap.size + 1) 1 _ _ (0, 0) ub1; have ug1 := frozen_of_row _ (w.heap.size + 1) 1 _ _ ub1; have ub2 := blk_set ub1 1 (.slice a2 a3 a4); have uz2 := cell_of_row _ (w.heap.size + 1) 2 _ _ (0, 0) ub2; have ug2 := frozen_of_row _ (w.heap.size + 1) 2 _ _ ub2; have ub3 := blk_set ub2 2 (.bool a5); have uz3 := cell_of_row _ (w.heap.size + 1) 3 _ _ (0, 0) ub3; have ug3 := frozen_of_row _ (w.heap.size + 1) 3 _ _ ub3
 have ub4 := blk_set ub3 3 (.slice a6 a7 a8); have uz4 := cell_of_row _ (w.heap.size + 1) 4 _ _ (0, 0) ub4; have ug4 := frozen_of_row _ (w.heap.size + 1) 4 _ _ ub4; have ub5 := blk_set ub4 4 (.bool b1); have uz5 := cell_of_row _ (w.heap.size + 1) 5 _ _ (0, 0) ub5; have ug5 := frozen_of_row _ (w.heap.size + 1) 5 _ _ ub5; have ub6 := blk_set ub5 5 (.slice b2 b3 b4); have uz6 := cell_of_row _ (w.heap.size + 1) 6 _ _ (0, 0) ub6; have ug6 := frozen_of_row _ (w.heap.size + 1) 6 _ _ ub6; have ub7 := blk_set ub6 6 (.bool b5); have uz7 := cell_of_row _ (w.heap.size + 1) 7 _ _ (0, 0) ub7
 have ug7 := frozen_of_row _ (w.heap.size + 1) 7 _ _ ub7; have ub8 := blk_set ub7 7 (.slice b6 b7 b8); simp only [sA, sZ, sS] at uz0 uz1 uz2 uz3 uz4 uz5 uz6 uz7; have uL := Lh ub8; clear ub0 ub1 ub2 ub3 ub4 ub5 ub6 ub7 ub8
 have RL : ((((((((w2.setCell ⟨w.heap.size + 1, 0, none⟩ (.bool a1)).setCell ⟨w.heap.size + 1, 1, none⟩ (.slice a2 a3 a4)).setCell ⟨w.heap.size + 1, 2, none⟩ (.bool a5)).setCell ⟨w.heap.size + 1, 3, none⟩ (.slice a6 a7 a8)).setCell ⟨w.heap.size + 1, 4, none⟩ (.bool b1)).setCell ⟨w.heap.size + 1, 5, none⟩ (.slice b2 b3 b4)).setCell ⟨w.heap.size + 1, 6, none⟩ (.bool b5)).setCell ⟨w.heap.size + 1, 7, none⟩ (.slice b6 b7 b8)).heap[w.heap.size + 1]? = some (.cells #[.bool a1, .slice a2 a3 a4, .bool a5, .slice a6 a7 a8, .bool b1, .slice b2 b3 b4, .bool b5, .slice b6 b7 b8] 44 (0, 0)) := uL.out
 have y0 := cell_of_row _ (w.heap.size + 1) 0 _ _ (0, 0) RL; have y1 := cell_of_row _ (w.heap.size + 1) 1 _ _ (0, 0) RL; have y2 := cell_of_row _ (w.heap.size + 1) 2 _ _ (0, 0) RL; have y3 := cell_of_row _ (w.heap.size + 1) 3 _ _ (0, 0) RL; have y4 := cell_of_row _ (w.heap.size + 1) 4 _ _ (0, 0) RL; have y5 := cell_of_row _ (w.heap.size + 1) 5 _ _ (0, 0) RL; have y6 := cell_of_row _ (w.heap.size + 1) 6 _ _ (0, 0) RL; have y7 := cell_of_row _ (w.heap.size + 1) 7 _ _ (0, 0) RL
 have NB : BoxN w2 (w.heap.size + 1) := ⟨_, _, _, F0.out, pl_noint _ _ _ _ _ _ _ _ _ _ _ _ _ _ _ _⟩
 have R1F : Hid ((⟨⟨a1, a2, a3, a4⟩, ⟨a5, a6, a7, a8⟩, aq⟩ : RV).rd ((((((((w2.setCell ⟨w.heap.size + 1, 0, none⟩ (.bool a1)).setCell ⟨w.heap.size + 1, 1, none⟩ (.slice a2 a3 a4)).setCell ⟨w.heap.size + 1, 2, none⟩ (.bool a5)).setCell ⟨w.heap.size + 1, 3, none⟩ (.slice a6 a7 a8)).setCell ⟨w.heap.size + 1, 4, none⟩ (.bool b1)).setCell ⟨w.heap.size + 1, 5, none⟩ (.slice b2 b3 b4)).setCell ⟨w.heap.size + 1, 6, none⟩ (.bool b5)).setCell ⟨w.heap.size + 1, 7, none⟩ (.slice b6 b7 b8)) (fun b => w.heap.size <= b) 4) := R1.out.st8 NB _ _ _ _ _ _ _ _ (sl_noint _ _ _) (sl_noint _ _ _) (sl_noint _ _ _) (sl_noint _ _ _)
 have R2F : Hid ((⟨⟨b1, b2, b3, b4⟩, ⟨b5, b6, b7, b8⟩, bq⟩ : RV).rd ((((((((w2.setCell ⟨w.heap.size + 1, 0, none⟩ (.bool a1)).setCell ⟨w.heap.size + 1, 1, none⟩ (.slice a2 a3 a4)).setCell ⟨w.heap.size + 1, 2, none⟩ (.bool a5)).setCell ⟨w.heap.size + 1, 3, none⟩ (.slice a6 a7 a8)).setCell ⟨w.heap.size + 1, 4, none⟩ (.bool b1)).setCell ⟨w.heap.size + 1, 5, none⟩ (.slice b2 b3 b4)).setCell ⟨w.heap.size + 1, 6, none⟩ (.bool b5)).setCell ⟨w.heap.size + 1, 7, none⟩ (.slice b6 b7 b8)) (fun b => w.heap.size <= b) 4) := R2.out.st8 NB _ _ _ _ _ _ _ _ (sl_noint _ _ _) (sl_noint _ _ _) (sl_noint _ _ _) (sl_noint _ _ _)
 have GF : Hid (Grow w ((((((((w2.setCell ⟨w.heap.size + 1, 0, none⟩ (.bool a1)).setCell ⟨w.heap.size + 1, 1, none⟩ (.slice a2 a3 a4)).setCell ⟨w.heap.size + 1, 2, none⟩ (.bool a5)).setCell ⟨w.heap.size + 1, 3, none⟩ (.slice a6 a7 a8)).setCell ⟨w.heap.size + 1, 4, none⟩ (.bool b1)).setCell ⟨w.heap.size + 1, 5, none⟩ (.slice b2 b3 b4)).setCell ⟨w.heap.size + 1, 6, none⟩ (.bool b5)).setCell ⟨w.heap.size + 1, 7, none⟩ (.slice b6 b7 b8))) := GW.out.st8 (by omega) _ _ _ _ _ _ _ _; clear RL uL NB; go_wp2
 exact bodyPost_ret (v := .agg #[.bool a1, .slice a2 a3 a4, .bool a5, .slice a6 a7 a8, .bool b1, .slice b2 b3 b4, .bool b5, .slice b6 b7 b8]) (by simp [results, Tryz.f8, go_sem, y0, y1, y2, y3, y4, y5, y6, y7]) rfl (HR.out ⟨(⟨⟨a1, a2, a3, a4⟩, ⟨a5, a6, a7, a8⟩, aq⟩ : RV), (⟨⟨b1, b2, b3, b4⟩, ⟨b5, b6, b7, b8⟩, bq⟩ : RV)⟩ _ GF.out (by rw [Q1.out, Q2.out]) ⟨R1F.out, R2F.out⟩)
end Go.Proofs.YteeeeddeacepmaaGreatDoor
namespace Go.Proofs.YteeeeddeacepmaaGreatDoor
set_option maxRecDepth 100000
open Go.RowKit Go.Lib B
theorem Grow.row {w W : World} (h : Grow w W) {b : Nat} (hb : w.heap.size <= b) (cs : Array Value) : Grow w (W.setRow b cs) :=
 ⟨h.os, h.tape, h.output, by rw [setRow_size]; exact h.size, fun k hk => by rw [setRow_other _ _ _ _ (by omega)]; exact h.block k hk⟩
theorem Rd.row {w : World} {S : Nat -> Prop} {size n : Nat} {v : Value} {xs : List Value} (h : Rd w S size v n xs) {B : Nat} (hB : ∀ b, S b -> b ≠ B) (cs : Array Value) : Rd (w.setRow B cs) S size v n xs :=
 h.keep fun b hb => setRow_other _ _ _ _ (hB b hb)
theorem BigR.row {w : World} {S : Nat -> Prop} {v : Value} {z : Int} {k : Nat} (h : BigR w S v z k) {B : Nat} (hB : ∀ b, S b -> b ≠ B) (cs : Array Value) : BigR (w.setRow B cs) S v z k := by
 obtain ⟨h1, m, h2, h3⟩ := h; exact ⟨h1, m, h2, h3.row hB cs⟩
theorem RatR.row {w : World} {S : Nat -> Prop} {v : Value} {n d : Int} {k j : Nat} (h : RatR w S v n d k j) {B : Nat} (hB : ∀ b, S b -> b ≠ B) (cs : Array Value) : RatR (w.setRow B cs) S v n d k j := by
 obtain ⟨p, A, x, c, p', A', x', c', h1, h2, h3⟩ := h; exact ⟨p, A, x, c, p', A', x', c', h1, h2.row hB cs, h3.row hB cs⟩
theorem RV.rd.row {r : RV} {w : World} {S : Nat -> Prop} {k B : Nat} (h : r.rd w S k) (hB : BoxN w B) (cs : Array Value) : r.rd (w.setRow B cs) S k := by
 obtain ⟨n, d, h1, h2, h3⟩ := h; exact ⟨n, d, h1, h2, ((h3.away hB).row (fun _ hb => hb.2) cs).into fun _ hb => hb.1⟩
theorem PV.rd.row {r : PV} {w : World} {S : Nat -> Prop} {k B : Nat} (h : r.rd w S k) (hB : BoxN w B) (cs : Array Value) : r.rd (w.setRow B cs) S k := ⟨h.1.row hB cs, h.2.row hB cs⟩
theorem BoxN.row {w : World} {B C : Nat} (h : BoxN w B) (hne : B ≠ C) (cs : Array Value) : BoxN (w.setRow C cs) B := by
 obtain ⟨c, t, fr, h1, h2⟩ := h; exact ⟨c, t, fr, (setRow_other _ _ _ _ hne).trans h1, h2⟩
theorem RV.noint (r : RV) : ∀ (j : Nat) k n, r.cells.toArray[j]? ≠ some (.int k n) := rat_noint _ _ _ _ _ _ _ _
theorem PV.noint (r : PV) : ∀ (j : Nat) k n, r.cells.toArray[j]? ≠ some (.int k n) := pl_noint _ _ _ _ _ _ _ _ _ _ _ _ _ _ _ _
theorem RV.one (r : RV) : (r.cells.toArray.all fun x => x.oneCell') = true := by simp [RV.cells, Value.oneCell']
theorem PV.one (r : PV) : (r.cells.toArray.all fun x => x.oneCell') = true := by simp [PV.cells, Value.oneCell']
def zeroRV : RV := ⟨⟨false, none, 0, 0⟩, ⟨false, none, 0, 0⟩, 0⟩
def zeroPV : PV := ⟨zeroRV, zeroRV⟩
theorem exec_load_row {o : Oper} {a : Act} {w : World} (ty : TypeId) (x : Operand) (ho : o.op = .load ty x)
  (g : Nat) (hx : a.eval x = .pointer (some ⟨g, 0, none⟩)) (t : TypeId) (cs : Array Value) (fr : Nat × Nat) (d : TypeDesc) (hg : w.heap[g]? = some (.cells cs t fr))
  (hd : (match d with | .struct _ | .array _ _ => true | _ => false) = true) (hu : Tryz.prog.underlying ty = some d) (hi : (Tryz.prog.info? ty).map (·.size) = some cs.size) :
  (execOp a.eval o).run Tryz.prog w = .ok (.value (.agg cs)) w := by
 unfold execOp; simp only [ho, hx, Instr.loadAt, Instr.sureAddr, Sem.run_bind, Sem.run_pure, Result.andThen_ok, run_loadVar_row w g t ty cs fr d hg hu (by cases d <;> first | rfl | simp at hd) hi]
end Go.Proofs.YteeeeddeacepmaaGreatDoor
