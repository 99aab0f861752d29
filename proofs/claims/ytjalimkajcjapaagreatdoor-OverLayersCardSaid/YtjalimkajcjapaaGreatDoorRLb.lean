import Derived.Test.YtjalimkajcjapaaGreatDoorLValA
import Derived.Laws.Tables
namespace Go.Proofs.YtjalimkajcjapaaGreatDoor
set_option maxRecDepth 100000
open Go.RowKit Go.Lib B
structure PV where
 x:RV
 y:RV
def PV.cells (p:PV):List Value:=[.bool p.x.nu.p,.slice p.x.nu.A p.x.nu.n p.x.nu.c,.bool p.x.de.p,.slice p.x.de.A p.x.de.n p.x.de.c,.bool p.y.nu.p,.slice p.y.nu.A p.y.nu.n p.y.nu.c,.bool p.y.de.p,.slice p.y.de.A p.y.de.n p.y.de.c]
theorem PV.cells_len (p:PV):p.cells.length=8:=rfl
def PV.q (p:PV):PtQ:=⟨p.x.q,p.y.q⟩
def PV.rd (p:PV)(w:World)(S:Nat->Prop)(k:Nat):Prop:=p.x.rd w S k/\p.y.rd w S k
theorem PV.rd.gr {p:PV}{w w':World}{S:Nat->Prop}{k:Nat}(h:p.rd w S k)(hg:aB w w'):p.rd w' S k:=⟨h.1.gr hg,h.2.gr hg⟩
theorem PV.rd.into {p:PV}{w:World}{S T:Nat->Prop}{k:Nat}(h:p.rd w S k)(hk:∀ b,S b->T b):p.rd w T k:=⟨h.1.into hk,h.2.into hk⟩
theorem PV.rd.up {p:PV}{w:World}{S:Nat->Prop}{k k':Nat}(h:p.rd w S k)(hk:k<=k'):p.rd w S k':=⟨h.1.up hk,h.2.up hk⟩
theorem PV.rd.both {p:PV}{w:World}{S:Nat->Prop}{k:Nat}(h:p.rd w S k):p.rd w (fun b=>S b/\b<w.heap.size) k:=⟨h.1.both,h.2.both⟩
def st8 (W:World)(b:Nat)(u0 u1 u2 u3 u4 u5 u6 u7:Value):World:=(((((((W.setCell ⟨b,0,none⟩ u0).setCell ⟨b,1,none⟩ u1).setCell ⟨b,2,none⟩ u2).setCell ⟨b,3,none⟩ u3).setCell ⟨b,4,none⟩ u4).setCell ⟨b,5,none⟩ u5).setCell ⟨b,6,none⟩ u6).setCell ⟨b,7,none⟩ u7
theorem aB.st8 {w W:World}{b:Nat}(h:aB w W)(hb:w.heap.size<=b)(u0 u1 u2 u3 u4 u5 u6 u7:Value):aB w (st8 W b u0 u1 u2 u3 u4 u5 u6 u7):=
 (((((((h.set (p:=⟨b,0,none⟩) hb u0).set (p:=⟨b,1,none⟩) hb u1).set (p:=⟨b,2,none⟩) hb u2).set (p:=⟨b,3,none⟩) hb u3).set (p:=⟨b,4,none⟩) hb u4).set (p:=⟨b,5,none⟩) hb u5).set (p:=⟨b,6,none⟩) hb u6).set (p:=⟨b,7,none⟩) hb u7
theorem RV.rd.st8 {r:RV}{W:World}{S:Nat->Prop}{k B:Nat}(h:r.rd W S k)(hB:eI W B)(a:Bool)(b:Value)(c:Bool)(d:Value)(a':Bool)(b':Value)(c':Bool)(d':Value)(hb:∀ k n,b≠.int k n)(hd:∀ k n,d≠.int k n)(hb':∀ k n,b'≠.int k n)(hd':∀ k n,d'≠.int k n):
  r.rd (st8 W B (.bool a) b (.bool c) d (.bool a') b' (.bool c') d') S k:=by
 have n1:∀ (x:Bool) k n,Value.bool x≠.int k n:=fun _ _ _ e=>by cases e
 have b1:=hB.set B 0 (n1 a);have b2:=b1.set B 1 hb;have b3:=b2.set B 2 (n1 c);have b4:=b3.set B 3 hd;have b5:=b4.set B 4 (n1 a');have b6:=b5.set B 5 hb';have b7:=b6.set B 6 (n1 c');have _:=hd';exact(((((((h.put hB _).put b1 _).put b2 _).put b3 _).put b4 _).put b5 _).put b6 _).put b7 _
theorem qB (p:Bool)(A:Option Addr)(x c:Nat)(p':Bool)(A':Option Addr)(x' c':Nat)(q:Bool)(B:Option Addr)(y d:Nat)(q':Bool)(B':Option Addr)(y' d':Nat):∀ (j:Nat) k n,(#[Value.bool p,.slice A x c,.bool p',.slice A' x' c',.bool q,.slice B y d,.bool q',.slice B' y' d']:Array Value)[j]? ≠some (.int k n):=by
 intro j k n h;rcases j with _|_|_|_|_|_|_|_|j<;>simp at h
theorem divone (n:Int):((n:Int):Rat)/((1:Int):Rat)=(n:Rat):=by
 have:((1:Int):Rat)=1:=rfl;grind
set_option maxHeartbeats 3000000 in
theorem xQ (p:Pt)(w:World)(hp:p.ok){R:Ending->World->Prop}
  (hR:∀ (r:PV) w',aB w w'->r.q=p.pq->r.rd w' (fun b=>w.heap.size<=b) 4->R (.returned (.agg r.cells.toArray)) w'):
  Calls Tryz.prog 61 #[.agg p.cells.toArray] w R:=by
 have HR:=Lh hR;clear hR;obtain⟨px,py⟩:=p;obtain⟨hx,hy⟩:=hp;have HP:=Lh (And.intro hx hy);clear hx hy;dsimp only at HP;unfold Pt.cells Pt.pq at*;unfold PV.cells PV.q at HR;dsimp only at HR ⊢
 obtain⟨wa,hwa⟩:∃ wa,wa=(w.alloc (.cells #[.int .i64 px,.int .i64 py] 51)).alloc (.cells #[.bool false,.slice none 0 0,.bool false,.slice none 0 0,.bool false,.slice none 0 0,.bool false,.slice none 0 0] 113):=⟨_,rfl⟩
 have GA:Hid (aB w wa):=by subst hwa;exact((aB.refl w).al _).al _
 have FP:Hid (wa.heap[w.heap.size]? =some (.cells #[.int .i64 px,.int .i64 py] 51 (0,0))):=by
  subst hwa;exact aR w _ _ ((aB.refl _).al _)
 have F0:Hid (wa.heap[w.heap.size+1]? =some (.cells #[.bool false,.slice none 0 0,.bool false,.slice none 0 0,.bool false,.slice none 0 0,.bool false,.slice none 0 0] 113 (0,0))):=by
  subst hwa;have:=aR (w.alloc (.cells #[.int .i64 px,.int .i64 py] 51)) #[.bool false,.slice none 0 0,.bool false,.slice none 0 0,.bool false,.slice none 0 0,.bool false,.slice none 0 0] 113 (aB.refl _)
  rwa[World.size_alloc] at this
 have SZ:Hid (wa.heap.size=w.heap.size+2):=by
  subst hwa;show _=_;simp only[World.size_alloc]
 go_enter Tryz.func61,Tryz.ntmps61
 go_wp2_with fail
 rw[<-hwa];clear hwa;have G0:=Lh ((aB.refl wa).dr);have FP:=Lh (aC G0.out FP.out);have F0:=Lh (aC G0.out F0.out);have GA:=Lh (GA.out.tr G0.out);have SZ:Hid (wa.drew.heap.size=w.heap.size+2):=SZ.out;clear G0;refine aE (aB wa.drew) ((aB.refl _)) 5 [0,1,3,4,2] (by kernel_rfl) (by kernel_rfl) (by intro c a d v w h;cases d<;>exact h) ?_
 iterate 4 (apply aD;exact rfl;exact rfl;(intro W hW;have fp:=aC hW FP.out;have z0:=cell_of_row _ _ 0 _ _ (0,0) fp;have z1:=cell_of_row _ _ 1 _ _ (0,0) fp;clear fp;(try clear hW);go_simp;with_reducible rfl);try simp only[Act.put,sA,sZ,sS])
 generalize wa.drew=wb at*;apply aG;exact rfl;exact rfl;exact rfl;intro K hK;go_simp;go_at_call 87;refine gU px _ HP.out.1 ?_;intro rx w1 hg1 hq1 hr1;obtain⟨⟨a1,a2,a3,a4⟩,⟨a5,a6,a7,a8⟩,aq⟩:=rx;have G1:=Lh hg1;have R1:=Lh (hr1.into (T:=fun b=>w.heap.size<=b) fun b hb=>by have:=SZ.out;omega);have Q1:=Lh hq1;unfold RV.cells;dsimp only at Q1 ⊢;refine hK.out _ _ G1.out ?_;clear hK hg1 hq1 hr1
 try simp only[Act.put,sA,sZ,sS]
 refine aK ?_;simp only[List.drop_succ_cons,List.drop_zero];go_wp2_with fail
 go_at_call 87;refine gU py _ HP.out.2 ?_;intro ry w2 hg2 hq2 hr2;obtain⟨⟨b1,b2,b3,b4⟩,⟨b5,b6,b7,b8⟩,bq⟩:=ry;have G2:=Lh (G1.out.tr hg2);have R1:=Lh (R1.out.gr hg2);have LS:Hid (w.heap.size<=w1.heap.size):=(GA.out.tr G1.out).size;have R2:=Lh (hr2.into (T:=fun b=>w.heap.size<=b) fun b hb=>by have:=LS.out;omega);have Q2:=Lh hq2;have F0:=Lh (aC G2.out F0.out);have GW:=Lh (GA.out.tr G2.out);clear hg2 hq2 hr2 G1 G2 LS;unfold RV.cells;dsimp only at Q2 ⊢;have ub0:=F0.out
 have uz0:=cell_of_row _ (w.heap.size+1) 0 _ _ (0,0) ub0;have ug0:=frozen_of_row _ (w.heap.size+1) 0 _ _ ub0;have ub1:=aF ub0 0 (.bool a1);have uz1:=cell_of_row _ (w.heap.size+1) 1 _ _ (0,0) ub1;have ug1:=frozen_of_row _ (w.heap.size+1) 1 _ _ ub1;have ub2:=aF ub1 1 (.slice a2 a3 a4);have uz2:=cell_of_row _ (w.heap.size+1) 2 _ _ (0,0) ub2;have ug2:=frozen_of_row _ (w.heap.size+1) 2 _ _ ub2;have ub3:=aF ub2 2 (.bool a5);have uz3:=cell_of_row _ (w.heap.size+1) 3 _ _ (0,0) ub3;have ug3:=frozen_of_row _ (w.heap.size+1) 3 _ _ ub3
 have ub4:=aF ub3 3 (.slice a6 a7 a8);have uz4:=cell_of_row _ (w.heap.size+1) 4 _ _ (0,0) ub4;have ug4:=frozen_of_row _ (w.heap.size+1) 4 _ _ ub4;have ub5:=aF ub4 4 (.bool b1);have uz5:=cell_of_row _ (w.heap.size+1) 5 _ _ (0,0) ub5;have ug5:=frozen_of_row _ (w.heap.size+1) 5 _ _ ub5;have ub6:=aF ub5 5 (.slice b2 b3 b4);have uz6:=cell_of_row _ (w.heap.size+1) 6 _ _ (0,0) ub6;have ug6:=frozen_of_row _ (w.heap.size+1) 6 _ _ ub6;have ub7:=aF ub6 6 (.bool b5);have uz7:=cell_of_row _ (w.heap.size+1) 7 _ _ (0,0) ub7
 have ug7:=frozen_of_row _ (w.heap.size+1) 7 _ _ ub7;have ub8:=aF ub7 7 (.slice b6 b7 b8);simp only[sA,sZ,sS] at uz0 uz1 uz2 uz3 uz4 uz5 uz6 uz7;have uL:=Lh ub8;clear ub0 ub1 ub2 ub3 ub4 ub5 ub6 ub7 ub8
 have RL:((((((((w2.setCell ⟨w.heap.size+1,0,none⟩ (.bool a1)).setCell ⟨w.heap.size+1,1,none⟩ (.slice a2 a3 a4)).setCell ⟨w.heap.size+1,2,none⟩ (.bool a5)).setCell ⟨w.heap.size+1,3,none⟩ (.slice a6 a7 a8)).setCell ⟨w.heap.size+1,4,none⟩ (.bool b1)).setCell ⟨w.heap.size+1,5,none⟩ (.slice b2 b3 b4)).setCell ⟨w.heap.size+1,6,none⟩ (.bool b5)).setCell ⟨w.heap.size+1,7,none⟩ (.slice b6 b7 b8)).heap[w.heap.size+1]? =some (.cells #[.bool a1,.slice a2 a3 a4,.bool a5,.slice a6 a7 a8,.bool b1,.slice b2 b3 b4,.bool b5,.slice b6 b7 b8] 113 (0,0)):=uL.out
 have y0:=cell_of_row _ (w.heap.size+1) 0 _ _ (0,0) RL;have y1:=cell_of_row _ (w.heap.size+1) 1 _ _ (0,0) RL;have y2:=cell_of_row _ (w.heap.size+1) 2 _ _ (0,0) RL;have y3:=cell_of_row _ (w.heap.size+1) 3 _ _ (0,0) RL;have y4:=cell_of_row _ (w.heap.size+1) 4 _ _ (0,0) RL;have y5:=cell_of_row _ (w.heap.size+1) 5 _ _ (0,0) RL;have y6:=cell_of_row _ (w.heap.size+1) 6 _ _ (0,0) RL;have y7:=cell_of_row _ (w.heap.size+1) 7 _ _ (0,0) RL
 have NB:eI w2 (w.heap.size+1):=⟨_,_,_,F0.out,qB _ _ _ _ _ _ _ _ _ _ _ _ _ _ _ _⟩
 have R1F:Hid ((⟨⟨a1,a2,a3,a4⟩,⟨a5,a6,a7,a8⟩,aq⟩:RV).rd ((((((((w2.setCell ⟨w.heap.size+1,0,none⟩ (.bool a1)).setCell ⟨w.heap.size+1,1,none⟩ (.slice a2 a3 a4)).setCell ⟨w.heap.size+1,2,none⟩ (.bool a5)).setCell ⟨w.heap.size+1,3,none⟩ (.slice a6 a7 a8)).setCell ⟨w.heap.size+1,4,none⟩ (.bool b1)).setCell ⟨w.heap.size+1,5,none⟩ (.slice b2 b3 b4)).setCell ⟨w.heap.size+1,6,none⟩ (.bool b5)).setCell ⟨w.heap.size+1,7,none⟩ (.slice b6 b7 b8)) (fun b=>w.heap.size<=b) 4):=R1.out.st8 NB _ _ _ _ _ _ _ _ (bB _ _ _) (bB _ _ _) (bB _ _ _) (bB _ _ _)
 have R2F:Hid ((⟨⟨b1,b2,b3,b4⟩,⟨b5,b6,b7,b8⟩,bq⟩:RV).rd ((((((((w2.setCell ⟨w.heap.size+1,0,none⟩ (.bool a1)).setCell ⟨w.heap.size+1,1,none⟩ (.slice a2 a3 a4)).setCell ⟨w.heap.size+1,2,none⟩ (.bool a5)).setCell ⟨w.heap.size+1,3,none⟩ (.slice a6 a7 a8)).setCell ⟨w.heap.size+1,4,none⟩ (.bool b1)).setCell ⟨w.heap.size+1,5,none⟩ (.slice b2 b3 b4)).setCell ⟨w.heap.size+1,6,none⟩ (.bool b5)).setCell ⟨w.heap.size+1,7,none⟩ (.slice b6 b7 b8)) (fun b=>w.heap.size<=b) 4):=R2.out.st8 NB _ _ _ _ _ _ _ _ (bB _ _ _) (bB _ _ _) (bB _ _ _) (bB _ _ _)
 have GF:Hid (aB w ((((((((w2.setCell ⟨w.heap.size+1,0,none⟩ (.bool a1)).setCell ⟨w.heap.size+1,1,none⟩ (.slice a2 a3 a4)).setCell ⟨w.heap.size+1,2,none⟩ (.bool a5)).setCell ⟨w.heap.size+1,3,none⟩ (.slice a6 a7 a8)).setCell ⟨w.heap.size+1,4,none⟩ (.bool b1)).setCell ⟨w.heap.size+1,5,none⟩ (.slice b2 b3 b4)).setCell ⟨w.heap.size+1,6,none⟩ (.bool b5)).setCell ⟨w.heap.size+1,7,none⟩ (.slice b6 b7 b8))):=GW.out.st8 (by omega) _ _ _ _ _ _ _ _;clear RL uL NB;go_wp2
 exact bodyPost_ret (v:=.agg #[.bool a1,.slice a2 a3 a4,.bool a5,.slice a6 a7 a8,.bool b1,.slice b2 b3 b4,.bool b5,.slice b6 b7 b8]) (by simp[results,Tryz.f61,go_sem,y0,y1,y2,y3,y4,y5,y6,y7]) rfl (HR.out ⟨(⟨⟨a1,a2,a3,a4⟩,⟨a5,a6,a7,a8⟩,aq⟩:RV),(⟨⟨b1,b2,b3,b4⟩,⟨b5,b6,b7,b8⟩,bq⟩:RV)⟩ _ GF.out (by rw[Q1.out,Q2.out]) ⟨R1F.out,R2F.out⟩)
set_option maxHeartbeats 6000000 in
theorem on_q (p q:Pt)(t:RV)(k:Nat)(S:Nat->Prop)(w:World)(ht:t.rd w S k)(hk:k<=1000)(hp:p.ok)(hq:q.ok){R:Ending->World->Prop}
  (hR:∀ (r:PV) w',aB w w'->r.q=onQ p q t.q->r.rd w' (fun b=>w.heap.size<=b) (k+10)->R (.returned (.agg r.cells.toArray)) w'):
  Calls Tryz.prog 91 #[.agg p.cells.toArray,.agg q.cells.toArray,.agg t.cells.toArray] w R:=by
 have HR:=Lh hR;clear hR;have HT:=Lh ht;obtain⟨px,py⟩:=p;obtain⟨qx,qy⟩:=q;obtain⟨⟨t1,t2,t3,t4⟩,⟨t5,t6,t7,t8⟩,tq⟩:=t
 have HP:Hid (I64 px/\I64 py/\I64 qx/\I64 qy):=⟨hp.1,hp.2,hq.1,hq.2⟩
 have HK:=Lh hk;clear hp hq ht hk;unfold Pt.cells RV.cells;unfold PV.cells PV.q onQ at HR;dsimp only at HR ⊢
 obtain⟨wa,hwa⟩:∃ wa,wa=(((w.alloc (.cells #[.int .i64 px,.int .i64 py] 51)).alloc (.cells #[.int .i64 qx,.int .i64 qy] 51)).alloc (.cells #[.bool t1,.slice t2 t3 t4,.bool t5,.slice t6 t7 t8] 111)).alloc (.cells #[.bool false,.slice none 0 0,.bool false,.slice none 0 0,.bool false,.slice none 0 0,.bool false,.slice none 0 0] 113):=⟨_,rfl⟩
 have GA:Hid (aB w wa):=by subst hwa;exact((((aB.refl w).al _).al _).al _).al _
 have FP:Hid (wa.heap[w.heap.size]? =some (.cells #[.int .i64 px,.int .i64 py] 51 (0,0))):=by
  subst hwa;exact aR w _ _ ((((aB.refl _).al _).al _).al _)
 have FQ:Hid (wa.heap[w.heap.size+1]? =some (.cells #[.int .i64 qx,.int .i64 qy] 51 (0,0))):=by
  subst hwa;have:=aR (w.alloc (.cells #[.int .i64 px,.int .i64 py] 51)) #[.int .i64 qx,.int .i64 qy] 51 (((aB.refl _).al (.cells #[.bool t1,.slice t2 t3 t4,.bool t5,.slice t6 t7 t8] 111)).al (.cells #[.bool false,.slice none 0 0,.bool false,.slice none 0 0,.bool false,.slice none 0 0,.bool false,.slice none 0 0] 113))
  rwa[World.size_alloc] at this
 have FT:Hid (wa.heap[w.heap.size+1+1]? =some (.cells #[.bool t1,.slice t2 t3 t4,.bool t5,.slice t6 t7 t8] 111 (0,0))):=by
  subst hwa;have:=aR ((w.alloc (.cells #[.int .i64 px,.int .i64 py] 51)).alloc (.cells #[.int .i64 qx,.int .i64 qy] 51)) #[.bool t1,.slice t2 t3 t4,.bool t5,.slice t6 t7 t8] 111 ((aB.refl _).al (.cells #[.bool false,.slice none 0 0,.bool false,.slice none 0 0,.bool false,.slice none 0 0,.bool false,.slice none 0 0] 113))
  rwa[World.size_alloc,World.size_alloc] at this
 have F0:Hid (wa.heap[w.heap.size+1+1+1]? =some (.cells #[.bool false,.slice none 0 0,.bool false,.slice none 0 0,.bool false,.slice none 0 0,.bool false,.slice none 0 0] 113 (0,0))):=by
  subst hwa;have:=aR (((w.alloc (.cells #[.int .i64 px,.int .i64 py] 51)).alloc (.cells #[.int .i64 qx,.int .i64 qy] 51)).alloc (.cells #[.bool t1,.slice t2 t3 t4,.bool t5,.slice t6 t7 t8] 111)) #[.bool false,.slice none 0 0,.bool false,.slice none 0 0,.bool false,.slice none 0 0,.bool false,.slice none 0 0] 113 (aB.refl _)
  rwa[World.size_alloc,World.size_alloc,World.size_alloc] at this
 have SZ:Hid (wa.heap.size=w.heap.size+4):=by
  subst hwa;show _=_;simp only[World.size_alloc]
 go_enter Tryz.func91,Tryz.ntmps91
 go_wp2_with fail
 rw[<-hwa];clear hwa;have GW:=Lh GA.out.dr;have G0:=Lh ((aB.refl wa).dr);have FP:=Lh (aC G0.out FP.out);have FQ:=Lh (aC G0.out FQ.out);have FT:=Lh (aC G0.out FT.out);have F0:=Lh (aC G0.out F0.out);have SZ:Hid (wa.drew.heap.size=w.heap.size+4):=SZ.out;clear GA G0
 refine dW ⟨18,some 7,111,#[.bool false,.slice none 0 0,.bool false,.slice none 0 0]⟩ ⟨19,some 8,111,#[.bool false,.slice none 0 0,.bool false,.slice none 0 0]⟩ 21 [0,1,3,4,9,10,12,13,2,5,6,7,8,11,14,15,16,17] [20] (by kernel_rfl) (by kernel_rfl) (by decide) ⟨_,rfl,rfl,rfl,fun a W K h=>by go_simp;exact h⟩ ⟨_,rfl,rfl,rfl,fun a W K h=>by go_simp;exact h⟩ (by intro c a d v w h;cases d<;>exact h) undef undef rfl rfl ?_;generalize wa.drew=wb at*
 iterate 8
  apply bX;exact rfl;(simp);(simp);(intro x1 x2;exact rfl)
  ·intro x1 x2 W' hW
   have fp:=aC hW FP.out;have fq:=aC hW FQ.out;have z0:=cell_of_row _ _ 0 _ _ (0,0) fp;have z1:=cell_of_row _ _ 1 _ _ (0,0) fp;have y0:=cell_of_row _ _ 0 _ _ (0,0) fq;have y1:=cell_of_row _ _ 1 _ _ (0,0) fq;clear hW fp fq;simp only[FA.put2,Act.put,sA,sZ,sS]
   go_simp
   with_reducible rfl
  simp only[Act.put,sA,sZ,sS]
 apply dS;exact rfl;exact rfl;(simp);(simp);(intro x1 x2;exact rfl);intro x1 x2 W5 hW hJ K hK;simp only[FA.put2,Act.put,sA,sZ,sS]
 go_simp
 go_at_call 96;refine gD qx _ HP.out.2.2.1 ?_;intro r1 w1 hg1 hr1;have R1:=Lh hr1;have LS1:Hid (w.heap.size<=W5.heap.size):=by have h:=hW.size;have:=SZ.out;exact Nat.le_trans (by omega) h
 refine hK.out _ _ (fun W=>aB w1 W) hg1 (fun _ _ g h=>h.tr g) (aB.refl _) ?_;clear hK hW hg1 hr1 hJ;simp only[Act.put,sA,sZ,sS];apply dS;exact rfl;exact rfl;(simp);(simp);(intro x1 x2;exact rfl);intro x1 x2 W5 hW hJ K hK;simp only[FA.put2,Act.put,sA,sZ,sS]
 go_simp
 go_at_call 96;refine gD px _ HP.out.1 ?_;intro r2 w2 hg2 hr2;have R1:=Lh (R1.out.gr (hJ.tr hg2));have R2:=Lh hr2;refine hK.out _ _ (fun W=>aB w2 W) hg2 (fun _ _ g h=>h.tr g) (aB.refl _) ?_;clear hK hW hg2 hr2 hJ;simp only[Act.put,sA,sZ,sS];apply dS;exact rfl;exact rfl;(simp);(simp);(intro x1 x2;exact rfl);intro x1 x2 W5 hW hJ K hK;simp only[FA.put2,Act.put,sA,sZ,sS]
 go_simp
 go_at_call 112;refine kY qx px 4 4 _ _ _ _ _ (R1.out.gr hJ) (R2.out.gr hJ) (by omega) (by omega) ?_;intro r3 w3 hg3 hr3;obtain⟨a1,a2,a3,a4,rfl⟩:=hr3.parts;have LS3:Hid (w.heap.size<=W5.heap.size):=by have h:=hW.size;have:=SZ.out;exact Nat.le_trans (by omega) h
 have R3:=Lh hr3;refine hK.out _ _ (fun W=>aB w3 W) hg3 (fun _ _ g h=>h.tr g) (aB.refl _) ?_;clear hK hW hg3 hr3 hJ R1 R2;simp only[Act.put,sA,sZ,sS];apply dS;exact rfl;exact rfl;(simp);(simp);(intro x1 x2;exact rfl);intro x1 x2 W5 hW hJ K hK;simp only[FA.put2,Act.put,sA,sZ,sS]
 go_simp
 go_at_call 97;refine fM 1 _ (by omega) ?_;intro r4 w4 hg4 hr4;obtain⟨a5,a6,a7,a8,rfl⟩:=hr4.parts;have LS4:Hid (w.heap.size<=W5.heap.size):=by have h:=hW.size;have:=SZ.out;exact Nat.le_trans (by omega) h
 have R3:=Lh (R3.out.gr (hJ.tr hg4));have R4:=Lh hr4;refine hK.out _ _ (fun W=>aB w4 W) hg4 (fun _ _ g h=>h.tr g) (aB.refl _) ?_;clear hK hW hg4 hr4 hJ;simp only[Act.put,sA,sZ,sS];apply bX;exact rfl;(simp);(simp);(intro x1 x2;exact rfl)
 ·intro x1 x2 W' hW
  have fp:=aC hW FP.out;have fq:=aC hW FQ.out;have z0:=cell_of_row _ _ 0 _ _ (0,0) fp;have z1:=cell_of_row _ _ 1 _ _ (0,0) fp;have y0:=cell_of_row _ _ 0 _ _ (0,0) fq;have y1:=cell_of_row _ _ 1 _ _ (0,0) fq;clear hW fp fq;simp only[FA.put2,Act.put,sA,sZ,sS]
  go_simp
  with_reducible rfl
 simp only[Act.put,sA,sZ,sS];apply dS;exact rfl;exact rfl;(simp);(simp);(intro x1 x2;exact rfl);intro x1 x2 W5 hW hJ K hK;simp only[FA.put2,Act.put,sA,sZ,sS]
 go_simp
 go_at_call 96;refine gD qy _ HP.out.2.2.2 ?_;intro r5 w5 hg5 hr5;have R3:=Lh (R3.out.gr (hJ.tr hg5));have R4:=Lh (R4.out.gr (hJ.tr hg5));have R5:=Lh hr5;refine hK.out _ _ (fun W=>aB w5 W) hg5 (fun _ _ g h=>h.tr g) (aB.refl _) ?_;clear hK hW hg5 hr5 hJ;simp only[Act.put,sA,sZ,sS];apply dS;exact rfl;exact rfl;(simp);(simp);(intro x1 x2;exact rfl);intro x1 x2 W5 hW hJ K hK;simp only[FA.put2,Act.put,sA,sZ,sS]
 go_simp
 go_at_call 96;refine gD py _ HP.out.2.1 ?_;intro r6 w6 hg6 hr6;have R3:=Lh (R3.out.gr (hJ.tr hg6));have R4:=Lh (R4.out.gr (hJ.tr hg6));have R5:=Lh (R5.out.gr (hJ.tr hg6));have R6:=Lh hr6;refine hK.out _ _ (fun W=>aB w6 W) hg6 (fun _ _ g h=>h.tr g) (aB.refl _) ?_;clear hK hW hg6 hr6 hJ;simp only[Act.put,sA,sZ,sS];apply dS;exact rfl;exact rfl;(simp);(simp);(intro x1 x2;exact rfl);intro x1 x2 W5 hW hJ K hK
 simp only[FA.put2,Act.put,sA,sZ,sS]
 go_simp
 go_at_call 112;refine kY qy py 4 4 _ _ _ _ _ (R5.out.gr hJ) (R6.out.gr hJ) (by omega) (by omega) ?_;intro r7 w7 hg7 hr7;obtain⟨b1,b2,b3,b4,rfl⟩:=hr7.parts;have LS7:Hid (w.heap.size<=W5.heap.size):=by have h:=hW.size;have:=SZ.out;exact Nat.le_trans (by omega) h
 have R3:=Lh (R3.out.gr (hJ.tr hg7));have R4:=Lh (R4.out.gr (hJ.tr hg7));have R7:=Lh hr7;refine hK.out _ _ (fun W=>aB w7 W) hg7 (fun _ _ g h=>h.tr g) (aB.refl _) ?_;clear hK hW hg7 hr7 hJ R5 R6;simp only[Act.put,sA,sZ,sS];apply dS;exact rfl;exact rfl;(simp);(simp);(intro x1 x2;exact rfl);intro x1 x2 W5 hW hJ K hK;simp only[FA.put2,Act.put,sA,sZ,sS]
 go_simp
 go_at_call 97;refine fM 1 _ (by omega) ?_;intro r8 w8 hg8 hr8;obtain⟨b5,b6,b7,b8,rfl⟩:=hr8.parts;have LS8:Hid (w.heap.size<=W5.heap.size):=by have h:=hW.size;have:=SZ.out;exact Nat.le_trans (by omega) h
 have R3:=Lh (R3.out.gr (hJ.tr hg8));have R4:=Lh (R4.out.gr (hJ.tr hg8));have R7:=Lh (R7.out.gr (hJ.tr hg8));have R8:=Lh hr8;refine hK.out _ _ (fun W=>aB w8 W) hg8 (fun _ _ g h=>h.tr g) (aB.refl _) ?_;clear hK hW hg8 hr8 hJ;simp only[Act.put,sA,sZ,sS];apply bX;exact rfl;(simp);(simp);(intro x1 x2;exact rfl)
 ·intro x1 x2 W' hW
  have fp:=aC hW FP.out;have fq:=aC hW FQ.out;have z0:=cell_of_row _ _ 0 _ _ (0,0) fp;have z1:=cell_of_row _ _ 1 _ _ (0,0) fp;have y0:=cell_of_row _ _ 0 _ _ (0,0) fq;have y1:=cell_of_row _ _ 1 _ _ (0,0) fq;clear hW fp fq;simp only[FA.put2,Act.put,sA,sZ,sS]
  go_simp
  with_reducible rfl
 simp only[Act.put,sA,sZ,sS];refine mY ?_;intro c1 c2 V hV hJ hne hc1 hc2
 have RA:Hid ((⟨⟨a1,a2,a3,a4⟩,⟨a5,a6,a7,a8⟩,((qx-px:Int):Rat)⟩:RV).rd V (fun b=>w.heap.size<=b) 5):=⟨qx-px,1,by decide,(divone _).symm,_,_,_,_,_,_,_,_,rfl,(R3.out.gr hJ).into fun b hb=>by have:=LS3.out;omega,((R4.out.gr hJ).into fun b hb=>by have:=LS4.out;omega).up (by omega)⟩
 have RB:Hid ((⟨⟨b1,b2,b3,b4⟩,⟨b5,b6,b7,b8⟩,((qy-py:Int):Rat)⟩:RV).rd V (fun b=>w.heap.size<=b) 5):=⟨qy-py,1,by decide,(divone _).symm,_,_,_,_,_,_,_,_,rfl,(R7.out.gr hJ).into fun b hb=>by have:=LS7.out;omega,((R8.out.gr hJ).into fun b hb=>by have:=LS8.out;omega).up (by omega)⟩
 have GV:Hid (aB wb V):=hV;have FC1:Hid (V.heap[c1]? =some (.cells #[.bool false,.slice none 0 0,.bool false,.slice none 0 0] 111 (0,0))):=hc1.2;have FC2:Hid (V.heap[c2]? =some (.cells #[.bool false,.slice none 0 0,.bool false,.slice none 0 0] 111 (0,0))):=hc2.2
 have N1:eI V c1:=⟨_,_,_,FC1.out,gY _ _ _ _ _ _ _ _⟩
 have NE:Hid (c1≠c2/\c2≠c1):=⟨hne,fun e=>hne e.symm⟩
 have LC:Hid (wb.heap.size<=c1/\wb.heap.size<=c2):=⟨hc1.1,hc2.1⟩
 refine⟨aB wb,fun _ h=>h,hV,?_⟩;clear hV hne hc1 hc2 hJ R3 R4 R7 R8 LS1 LS3 LS4 LS7 LS8;unfold dG FA.put2;simp only[Act.put,sA,sZ,sS,List.drop_succ_cons,List.drop_zero];have ub0:=FC1.out;have uz0:=cell_of_row _ (c1) 0 _ _ (0,0) ub0;have ug0:=frozen_of_row _ (c1) 0 _ _ ub0;have ub1:=aF ub0 0 (.bool a1);have uz1:=cell_of_row _ (c1) 1 _ _ (0,0) ub1;have ug1:=frozen_of_row _ (c1) 1 _ _ ub1;have ub2:=aF ub1 1 (.slice a2 a3 a4);have uz2:=cell_of_row _ (c1) 2 _ _ (0,0) ub2
 have ug2:=frozen_of_row _ (c1) 2 _ _ ub2;have ub3:=aF ub2 2 (.bool a5);have uz3:=cell_of_row _ (c1) 3 _ _ (0,0) ub3;have ug3:=frozen_of_row _ (c1) 3 _ _ ub3;have ub4:=aF ub3 3 (.slice a6 a7 a8);simp only[sA,sZ,sS] at uz0 uz1 uz2 uz3;have uL:=Lh ub4;clear ub0 ub1 ub2 ub3 ub4
 have FC2c:((((V.setCell ⟨c1,0,none⟩ (.bool a1)).setCell ⟨c1,1,none⟩ (.slice a2 a3 a4)).setCell ⟨c1,2,none⟩ (.bool a5)).setCell ⟨c1,3,none⟩ (.slice a6 a7 a8)).heap[c2]? =some (.cells #[.bool false,.slice none 0 0,.bool false,.slice none 0 0] 111 (0,0)):=(rW (W:=V) (b:=c1) (c:=c2) NE.out.2 (.bool a1) (.slice a2 a3 a4) (.bool a5) (.slice a6 a7 a8)).trans FC2.out;have vb0:=FC2c;have vz0:=cell_of_row _ (c2) 0 _ _ (0,0) vb0;have vg0:=frozen_of_row _ (c2) 0 _ _ vb0;have vb1:=aF vb0 0 (.bool b1);have vz1:=cell_of_row _ (c2) 1 _ _ (0,0) vb1
 have vg1:=frozen_of_row _ (c2) 1 _ _ vb1;have vb2:=aF vb1 1 (.slice b2 b3 b4);have vz2:=cell_of_row _ (c2) 2 _ _ (0,0) vb2;have vg2:=frozen_of_row _ (c2) 2 _ _ vb2;have vb3:=aF vb2 2 (.bool b5);have vz3:=cell_of_row _ (c2) 3 _ _ (0,0) vb3;have vg3:=frozen_of_row _ (c2) 3 _ _ vb3;have vb4:=aF vb3 3 (.slice b6 b7 b8);simp only[sA,sZ,sS] at vz0 vz1 vz2 vz3;have vL:=Lh vb4;clear vb0 vb1 vb2 vb3 vb4
 have FC1:Hid (((((((((V.setCell ⟨c1,0,none⟩ (.bool a1)).setCell ⟨c1,1,none⟩ (.slice a2 a3 a4)).setCell ⟨c1,2,none⟩ (.bool a5)).setCell ⟨c1,3,none⟩ (.slice a6 a7 a8)).setCell ⟨c2,0,none⟩ (.bool b1)).setCell ⟨c2,1,none⟩ (.slice b2 b3 b4)).setCell ⟨c2,2,none⟩ (.bool b5)).setCell ⟨c2,3,none⟩ (.slice b6 b7 b8)).heap[c1]? =some (.cells #[.bool a1,.slice a2 a3 a4,.bool a5,.slice a6 a7 a8] 111 (0,0))):=(rW (W:=((((V.setCell ⟨c1,0,none⟩ (.bool a1)).setCell ⟨c1,1,none⟩ (.slice a2 a3 a4)).setCell ⟨c1,2,none⟩ (.bool a5)).setCell ⟨c1,3,none⟩ (.slice a6 a7 a8))) (b:=c2) (c:=c1) NE.out.1 (.bool b1) (.slice b2 b3 b4) (.bool b5) (.slice b6 b7 b8)).trans uL.out
 have FC2n:Hid (((((((((V.setCell ⟨c1,0,none⟩ (.bool a1)).setCell ⟨c1,1,none⟩ (.slice a2 a3 a4)).setCell ⟨c1,2,none⟩ (.bool a5)).setCell ⟨c1,3,none⟩ (.slice a6 a7 a8)).setCell ⟨c2,0,none⟩ (.bool b1)).setCell ⟨c2,1,none⟩ (.slice b2 b3 b4)).setCell ⟨c2,2,none⟩ (.bool b5)).setCell ⟨c2,3,none⟩ (.slice b6 b7 b8)).heap[c2]? =some (.cells #[.bool b1,.slice b2 b3 b4,.bool b5,.slice b6 b7 b8] 111 (0,0))):=vL.out
 have N2:eI V c2:=⟨_,_,_,FC2.out,gY _ _ _ _ _ _ _ _⟩
 have G1:Hid (aB wb ((((V.setCell ⟨c1,0,none⟩ (.bool a1)).setCell ⟨c1,1,none⟩ (.slice a2 a3 a4)).setCell ⟨c1,2,none⟩ (.bool a5)).setCell ⟨c1,3,none⟩ (.slice a6 a7 a8))):=GV.out.st4 LC.out.1 _ _ _ _;have G2:Hid (aB wb ((((((((V.setCell ⟨c1,0,none⟩ (.bool a1)).setCell ⟨c1,1,none⟩ (.slice a2 a3 a4)).setCell ⟨c1,2,none⟩ (.bool a5)).setCell ⟨c1,3,none⟩ (.slice a6 a7 a8)).setCell ⟨c2,0,none⟩ (.bool b1)).setCell ⟨c2,1,none⟩ (.slice b2 b3 b4)).setCell ⟨c2,2,none⟩ (.bool b5)).setCell ⟨c2,3,none⟩ (.slice b6 b7 b8))):=(GV.out.st4 LC.out.1 _ _ _ _).st4 LC.out.2 _ _ _ _
 have RA:Hid ((⟨⟨a1,a2,a3,a4⟩,⟨a5,a6,a7,a8⟩,((qx-px:Int):Rat)⟩:RV).rd ((((((((V.setCell ⟨c1,0,none⟩ (.bool a1)).setCell ⟨c1,1,none⟩ (.slice a2 a3 a4)).setCell ⟨c1,2,none⟩ (.bool a5)).setCell ⟨c1,3,none⟩ (.slice a6 a7 a8)).setCell ⟨c2,0,none⟩ (.bool b1)).setCell ⟨c2,1,none⟩ (.slice b2 b3 b4)).setCell ⟨c2,2,none⟩ (.bool b5)).setCell ⟨c2,3,none⟩ (.slice b6 b7 b8)) (fun b=>w.heap.size<=b) 5):=tJ (tJ RA.out N1 _ _ _ _ (bB _ _ _) (bB _ _ _)) (N2.st4 c1 _ _ _ _ (bB _ _ _) (bB _ _ _)) _ _ _ _ (bB _ _ _) (bB _ _ _)
 have RB:Hid ((⟨⟨b1,b2,b3,b4⟩,⟨b5,b6,b7,b8⟩,((qy-py:Int):Rat)⟩:RV).rd ((((((((V.setCell ⟨c1,0,none⟩ (.bool a1)).setCell ⟨c1,1,none⟩ (.slice a2 a3 a4)).setCell ⟨c1,2,none⟩ (.bool a5)).setCell ⟨c1,3,none⟩ (.slice a6 a7 a8)).setCell ⟨c2,0,none⟩ (.bool b1)).setCell ⟨c2,1,none⟩ (.slice b2 b3 b4)).setCell ⟨c2,2,none⟩ (.bool b5)).setCell ⟨c2,3,none⟩ (.slice b6 b7 b8)) (fun b=>w.heap.size<=b) 5):=tJ (tJ RB.out N1 _ _ _ _ (bB _ _ _) (bB _ _ _)) (N2.st4 c1 _ _ _ _ (bB _ _ _) (bB _ _ _)) _ _ _ _ (bB _ _ _) (bB _ _ _)
 clear FC2c FC2 uL vL N1 N2 GV;apply aG;exact rfl;exact rfl;exact rfl;intro K hK;go_simp;skip
 refine hK.out _ _ G1.out ?_;clear hK G1
 try simp only[Act.put,sA,sZ,sS]
 refine aK ?_;go_upto_region 2 with fail
 clear uz0 ug0 uz1 ug1 uz2 ug2 uz3 ug3 vz0 vg0 vz1 vg1 vz2 vg2 vz3 vg3;generalize ((((((((V.setCell ⟨c1,0,none⟩ (.bool a1)).setCell ⟨c1,1,none⟩ (.slice a2 a3 a4)).setCell ⟨c1,2,none⟩ (.bool a5)).setCell ⟨c1,3,none⟩ (.slice a6 a7 a8)).setCell ⟨c2,0,none⟩ (.bool b1)).setCell ⟨c2,1,none⟩ (.slice b2 b3 b4)).setCell ⟨c2,2,none⟩ (.bool b5)).setCell ⟨c2,3,none⟩ (.slice b6 b7 b8))=w9 at*;have G9:=Lh (G2.out.dr);have HG:=Lh ((aB.refl w9).dr);have RA:=Lh (RA.out.gr HG.out);have RB:=Lh (RB.out.gr HG.out);have FC1:=Lh (aC HG.out FC1.out)
 have FC2:=Lh (aC HG.out FC2n.out);have FP:=Lh (aC G9.out FP.out);have FT:=Lh (aC G9.out FT.out);have F0:=Lh (aC G9.out F0.out);have RT':=Lh (HT.out.gr (GW.out.tr G9.out));have GW:=Lh (GW.out.tr G9.out);clear HG G2 G9 FC2n HT SZ FQ LC NE;refine aE (aB w9.drew) ((aB.refl _)) 12 [0,1,3,4,7,8,10,11,2,5,6,9] (by kernel_rfl) (by kernel_rfl) (by intro c a d v w h;cases d<;>exact h) ?_
 iterate 8 (apply aD;exact rfl;exact rfl;(intro W hW;have fp:=aC hW FP.out;have ft:=aC hW FT.out;have fa:=aC hW FC1.out;have fb:=aC hW FC2.out;have z0:=cell_of_row _ _ 0 _ _ (0,0) fp;have z1:=cell_of_row _ _ 1 _ _ (0,0) fp;have t0:=cell_of_row _ _ 0 _ _ (0,0) ft;have y0:=cell_of_row _ _ 0 _ _ (0,0) fa;have x0:=cell_of_row _ _ 0 _ _ (0,0) fb;have t1:=cell_of_row _ _ 1 _ _ (0,0) ft;have y1:=cell_of_row _ _ 1 _ _ (0,0) fa;have x1:=cell_of_row _ _ 1 _ _ (0,0) fb;have t2:=cell_of_row _ _ 2 _ _ (0,0) ft;have y2:=cell_of_row _ _ 2 _ _ (0,0) fa;have x2:=cell_of_row _ _ 2 _ _ (0,0) fb;have t3:=cell_of_row _ _ 3 _ _ (0,0) ft;have y3:=cell_of_row _ _ 3 _ _ (0,0) fa;have x3:=cell_of_row _ _ 3 _ _ (0,0) fb;clear fp ft fa fb;(try clear hW);go_simp;with_reducible rfl);try simp only[Act.put,sA,sZ,sS])
 generalize w9.drew=wc at*;clear FP FC1 FC2 FT;apply aG;exact rfl;exact rfl;exact rfl;intro K hK;go_simp;go_at_call 87;refine gU px _ HP.out.1 ?_;intro rc w1 hg1 hq1 hr1;obtain⟨⟨c1,c2,c3,c4⟩,⟨c5,c6,c7,c8⟩,cq⟩:=rc;have G1:=Lh hg1;have RC:=Lh hr1;have QC:=Lh hq1;have RA:=Lh (RA.out.gr hg1);have RB:=Lh (RB.out.gr hg1);have RT':=Lh (RT'.out.gr hg1);unfold RV.cells;dsimp only at QC ⊢;refine hK.out _ _ G1.out ?_;clear hK hg1 hq1 hr1
 try simp only[Act.put,sA,sZ,sS]
 apply aG;exact rfl;exact rfl;exact rfl;intro K hK;go_simp;go_at_call 114;refine tH (⟨⟨a1,a2,a3,a4⟩,⟨a5,a6,a7,a8⟩,((qx-px:Int):Rat)⟩:RV) (⟨⟨t1,t2,t3,t4⟩,⟨t5,t6,t7,t8⟩,tq⟩:RV) 5 k _ _ w1 RA.out RT'.out (by omega) (by have:=HK.out;omega) ?_;intro rd w2 hg2 hq2 hr2;obtain⟨⟨d1,d2,d3,d4⟩,⟨d5,d6,d7,d8⟩,dq⟩:=rd;have G2:=Lh (G1.out.tr hg2);have RD:=Lh hr2;have QD:=Lh hq2;have RC:=Lh (RC.out.gr hg2);have RB:=Lh (RB.out.gr hg2);have RT':=Lh (RT'.out.gr hg2);unfold RV.cells;dsimp only at QD ⊢
 refine hK.out _ _ G2.out ?_;clear hK hg2 hq2 hr2 G1
 try simp only[Act.put,sA,sZ,sS]
 apply aG;exact rfl;exact rfl;exact rfl;intro K hK;go_simp;go_at_call 113;refine yM (⟨⟨c1,c2,c3,c4⟩,⟨c5,c6,c7,c8⟩,cq⟩:RV) (⟨⟨d1,d2,d3,d4⟩,⟨d5,d6,d7,d8⟩,dq⟩:RV) 4 (5+k) _ _ w2 RC.out RD.out (by omega) (by have:=HK.out;omega) ?_;intro re w3 hg3 hq3 hr3;obtain⟨⟨e1,e2,e3,e4⟩,⟨e5,e6,e7,e8⟩,eq⟩:=re;have LS2:Hid (w.heap.size<=w2.heap.size):=(GW.out.tr G2.out).size;have G3:=Lh (G2.out.tr hg3);have RE:=Lh ((hr3.into (T:=fun b=>w.heap.size<=b) fun b hb=>by have:=LS2.out;omega).up (k':=k+10) (by omega))
 have QE:=Lh hq3;have RB:=Lh (RB.out.gr hg3);have RT':=Lh (RT'.out.gr hg3);unfold RV.cells;dsimp only at QE ⊢;refine hK.out _ _ G3.out ?_;clear hK hg3 hq3 hr3 G2 RC RD LS2
 try simp only[Act.put,sA,sZ,sS]
 apply aG;exact rfl;exact rfl;exact rfl;intro K hK;go_simp;go_at_call 87;refine gU py _ HP.out.2.1 ?_;intro rf w4 hg4 hq4 hr4;obtain⟨⟨f1,f2,f3,f4⟩,⟨f5,f6,f7,f8⟩,fq⟩:=rf;have G4:=Lh (G3.out.tr hg4);have RF:=Lh hr4;have QF:=Lh hq4;have RE:=Lh (RE.out.gr hg4);have RB:=Lh (RB.out.gr hg4);have RT':=Lh (RT'.out.gr hg4);unfold RV.cells;dsimp only at QF ⊢;refine hK.out _ _ G4.out ?_;clear hK hg4 hq4 hr4 G3
 try simp only[Act.put,sA,sZ,sS]
 refine aK ?_;simp only[List.drop_succ_cons,List.drop_zero];go_wp2_with fail
 go_at_call 114;refine tH (⟨⟨b1,b2,b3,b4⟩,⟨b5,b6,b7,b8⟩,((qy-py:Int):Rat)⟩:RV) (⟨⟨t1,t2,t3,t4⟩,⟨t5,t6,t7,t8⟩,tq⟩:RV) 5 k _ _ w4 RB.out RT'.out (by omega) (by have:=HK.out;omega) ?_;intro rg w5 hg5 hq5 hr5;obtain⟨⟨g1,g2,g3,g4⟩,⟨g5,g6,g7,g8⟩,gq⟩:=rg;have G5:=Lh (G4.out.tr hg5);have RG:=Lh hr5;have QG:=Lh hq5;have RE:=Lh (RE.out.gr hg5);have RF:=Lh (RF.out.gr hg5);clear hg5 hq5 hr5 G4;unfold RV.cells;dsimp only at QG ⊢;go_wp2_with fail
 go_at_call 113;refine yM (⟨⟨f1,f2,f3,f4⟩,⟨f5,f6,f7,f8⟩,fq⟩:RV) (⟨⟨g1,g2,g3,g4⟩,⟨g5,g6,g7,g8⟩,gq⟩:RV) 4 (5+k) _ _ w5 RF.out RG.out (by omega) (by have:=HK.out;omega) ?_;intro rh w6 hg6 hq6 hr6;obtain⟨⟨h1,h2,h3,h4⟩,⟨h5,h6,h7,h8⟩,hq⟩:=rh;have LS2:Hid (w.heap.size<=w5.heap.size):=(GW.out.tr G5.out).size;have RH:=Lh ((hr6.into (T:=fun b=>w.heap.size<=b) fun b hb=>by have:=LS2.out;omega).up (k':=k+10) (by omega));have QH:=Lh hq6;have RE:=Lh (RE.out.gr hg6);have F0:=Lh (aC (G5.out.tr hg6) F0.out)
 have GW:=Lh (GW.out.tr (G5.out.tr hg6));clear hg6 hq6 hr6 G5 RF RG LS2 RT' RA RB;unfold RV.cells;dsimp only at QH ⊢;have ub0:=F0.out;have uz0:=cell_of_row _ (w.heap.size+1+1+1) 0 _ _ (0,0) ub0;have ug0:=frozen_of_row _ (w.heap.size+1+1+1) 0 _ _ ub0;have ub1:=aF ub0 0 (.bool e1);have uz1:=cell_of_row _ (w.heap.size+1+1+1) 1 _ _ (0,0) ub1;have ug1:=frozen_of_row _ (w.heap.size+1+1+1) 1 _ _ ub1;have ub2:=aF ub1 1 (.slice e2 e3 e4);have uz2:=cell_of_row _ (w.heap.size+1+1+1) 2 _ _ (0,0) ub2
 have ug2:=frozen_of_row _ (w.heap.size+1+1+1) 2 _ _ ub2;have ub3:=aF ub2 2 (.bool e5);have uz3:=cell_of_row _ (w.heap.size+1+1+1) 3 _ _ (0,0) ub3;have ug3:=frozen_of_row _ (w.heap.size+1+1+1) 3 _ _ ub3;have ub4:=aF ub3 3 (.slice e6 e7 e8);have uz4:=cell_of_row _ (w.heap.size+1+1+1) 4 _ _ (0,0) ub4;have ug4:=frozen_of_row _ (w.heap.size+1+1+1) 4 _ _ ub4;have ub5:=aF ub4 4 (.bool h1);have uz5:=cell_of_row _ (w.heap.size+1+1+1) 5 _ _ (0,0) ub5;have ug5:=frozen_of_row _ (w.heap.size+1+1+1) 5 _ _ ub5
 have ub6:=aF ub5 5 (.slice h2 h3 h4);have uz6:=cell_of_row _ (w.heap.size+1+1+1) 6 _ _ (0,0) ub6;have ug6:=frozen_of_row _ (w.heap.size+1+1+1) 6 _ _ ub6;have ub7:=aF ub6 6 (.bool h5);have uz7:=cell_of_row _ (w.heap.size+1+1+1) 7 _ _ (0,0) ub7;have ug7:=frozen_of_row _ (w.heap.size+1+1+1) 7 _ _ ub7;have ub8:=aF ub7 7 (.slice h6 h7 h8);simp only[sA,sZ,sS] at uz0 uz1 uz2 uz3 uz4 uz5 uz6 uz7;have uL:=Lh ub8;clear ub0 ub1 ub2 ub3 ub4 ub5 ub6 ub7 ub8
 have RL:((((((((w6.setCell ⟨w.heap.size+1+1+1,0,none⟩ (.bool e1)).setCell ⟨w.heap.size+1+1+1,1,none⟩ (.slice e2 e3 e4)).setCell ⟨w.heap.size+1+1+1,2,none⟩ (.bool e5)).setCell ⟨w.heap.size+1+1+1,3,none⟩ (.slice e6 e7 e8)).setCell ⟨w.heap.size+1+1+1,4,none⟩ (.bool h1)).setCell ⟨w.heap.size+1+1+1,5,none⟩ (.slice h2 h3 h4)).setCell ⟨w.heap.size+1+1+1,6,none⟩ (.bool h5)).setCell ⟨w.heap.size+1+1+1,7,none⟩ (.slice h6 h7 h8)).heap[w.heap.size+1+1+1]? =some (.cells #[.bool e1,.slice e2 e3 e4,.bool e5,.slice e6 e7 e8,.bool h1,.slice h2 h3 h4,.bool h5,.slice h6 h7 h8] 113 (0,0)):=uL.out
 have y0:=cell_of_row _ (w.heap.size+1+1+1) 0 _ _ (0,0) RL;have y1:=cell_of_row _ (w.heap.size+1+1+1) 1 _ _ (0,0) RL;have y2:=cell_of_row _ (w.heap.size+1+1+1) 2 _ _ (0,0) RL;have y3:=cell_of_row _ (w.heap.size+1+1+1) 3 _ _ (0,0) RL;have y4:=cell_of_row _ (w.heap.size+1+1+1) 4 _ _ (0,0) RL;have y5:=cell_of_row _ (w.heap.size+1+1+1) 5 _ _ (0,0) RL;have y6:=cell_of_row _ (w.heap.size+1+1+1) 6 _ _ (0,0) RL;have y7:=cell_of_row _ (w.heap.size+1+1+1) 7 _ _ (0,0) RL
 have NB:eI w6 (w.heap.size+1+1+1):=⟨_,_,_,F0.out,qB _ _ _ _ _ _ _ _ _ _ _ _ _ _ _ _⟩
 have REF:Hid ((⟨⟨e1,e2,e3,e4⟩,⟨e5,e6,e7,e8⟩,eq⟩:RV).rd ((((((((w6.setCell ⟨w.heap.size+1+1+1,0,none⟩ (.bool e1)).setCell ⟨w.heap.size+1+1+1,1,none⟩ (.slice e2 e3 e4)).setCell ⟨w.heap.size+1+1+1,2,none⟩ (.bool e5)).setCell ⟨w.heap.size+1+1+1,3,none⟩ (.slice e6 e7 e8)).setCell ⟨w.heap.size+1+1+1,4,none⟩ (.bool h1)).setCell ⟨w.heap.size+1+1+1,5,none⟩ (.slice h2 h3 h4)).setCell ⟨w.heap.size+1+1+1,6,none⟩ (.bool h5)).setCell ⟨w.heap.size+1+1+1,7,none⟩ (.slice h6 h7 h8)) (fun b=>w.heap.size<=b) (k+10)):=RE.out.st8 NB _ _ _ _ _ _ _ _ (bB _ _ _) (bB _ _ _) (bB _ _ _) (bB _ _ _)
 have RHF:Hid ((⟨⟨h1,h2,h3,h4⟩,⟨h5,h6,h7,h8⟩,hq⟩:RV).rd ((((((((w6.setCell ⟨w.heap.size+1+1+1,0,none⟩ (.bool e1)).setCell ⟨w.heap.size+1+1+1,1,none⟩ (.slice e2 e3 e4)).setCell ⟨w.heap.size+1+1+1,2,none⟩ (.bool e5)).setCell ⟨w.heap.size+1+1+1,3,none⟩ (.slice e6 e7 e8)).setCell ⟨w.heap.size+1+1+1,4,none⟩ (.bool h1)).setCell ⟨w.heap.size+1+1+1,5,none⟩ (.slice h2 h3 h4)).setCell ⟨w.heap.size+1+1+1,6,none⟩ (.bool h5)).setCell ⟨w.heap.size+1+1+1,7,none⟩ (.slice h6 h7 h8)) (fun b=>w.heap.size<=b) (k+10)):=RH.out.st8 NB _ _ _ _ _ _ _ _ (bB _ _ _) (bB _ _ _) (bB _ _ _) (bB _ _ _)
 have GF:Hid (aB w ((((((((w6.setCell ⟨w.heap.size+1+1+1,0,none⟩ (.bool e1)).setCell ⟨w.heap.size+1+1+1,1,none⟩ (.slice e2 e3 e4)).setCell ⟨w.heap.size+1+1+1,2,none⟩ (.bool e5)).setCell ⟨w.heap.size+1+1+1,3,none⟩ (.slice e6 e7 e8)).setCell ⟨w.heap.size+1+1+1,4,none⟩ (.bool h1)).setCell ⟨w.heap.size+1+1+1,5,none⟩ (.slice h2 h3 h4)).setCell ⟨w.heap.size+1+1+1,6,none⟩ (.bool h5)).setCell ⟨w.heap.size+1+1+1,7,none⟩ (.slice h6 h7 h8))):=GW.out.st8 (by omega) _ _ _ _ _ _ _ _;clear RL uL NB;go_wp2
 exact bodyPost_ret (v:=.agg #[.bool e1,.slice e2 e3 e4,.bool e5,.slice e6 e7 e8,.bool h1,.slice h2 h3 h4,.bool h5,.slice h6 h7 h8]) (by simp[results,Tryz.f91,go_sem,y0,y1,y2,y3,y4,y5,y6,y7]) rfl (HR.out ⟨(⟨⟨e1,e2,e3,e4⟩,⟨e5,e6,e7,e8⟩,eq⟩:RV),(⟨⟨h1,h2,h3,h4⟩,⟨h5,h6,h7,h8⟩,hq⟩:RV)⟩ _ GF.out (by rw[QE.out,QH.out,QC.out,QD.out,QF.out,QG.out]) ⟨REF.out,RHF.out⟩)
theorem aB.row {w W:World}(h:aB w W){b:Nat}(hb:w.heap.size<=b)(cs:Array Value):aB w (W.setRow b cs):=
 ⟨h.os,h.tape,h.output,by rw[setRow_size];exact h.size,fun k hk=>by rw[setRow_other _ _ _ _ (by omega)];exact h.block k hk⟩
theorem Rd.row {w:World}{S:Nat->Prop}{size n:Nat}{v:Value}{xs:List Value}(h:Rd w S size v n xs){B:Nat}(hB:∀ b,S b->b≠B)(cs:Array Value):Rd (w.setRow B cs) S size v n xs:=
 h.keep fun b hb=>setRow_other _ _ _ _ (hB b hb)
theorem cL.row {w:World}{S:Nat->Prop}{v:Value}{z:Int}{k:Nat}(h:cL w S v z k){B:Nat}(hB:∀ b,S b->b≠B)(cs:Array Value):cL (w.setRow B cs) S v z k:=by
 obtain⟨h1,m,h2,h3⟩:=h;exact⟨h1,m,h2,h3.row hB cs⟩
theorem cK.row {w:World}{S:Nat->Prop}{v:Value}{n d:Int}{k j:Nat}(h:cK w S v n d k j){B:Nat}(hB:∀ b,S b->b≠B)(cs:Array Value):cK (w.setRow B cs) S v n d k j:=by
 obtain⟨p,A,x,c,p',A',x',c',h1,h2,h3⟩:=h;exact⟨p,A,x,c,p',A',x',c',h1,h2.row hB cs,h3.row hB cs⟩
theorem RV.rd.row {r:RV}{w:World}{S:Nat->Prop}{k B:Nat}(h:r.rd w S k)(hB:eI w B)(cs:Array Value):r.rd (w.setRow B cs) S k:=by
 obtain⟨n,d,h1,h2,h3⟩:=h;exact⟨n,d,h1,h2,((h3.away hB).row (fun _ hb=>hb.2) cs).into fun _ hb=>hb.1⟩
theorem PV.rd.row {r:PV}{w:World}{S:Nat->Prop}{k B:Nat}(h:r.rd w S k)(hB:eI w B)(cs:Array Value):r.rd (w.setRow B cs) S k:=⟨h.1.row hB cs,h.2.row hB cs⟩
theorem eI.row {w:World}{B C:Nat}(h:eI w B)(hne:B≠C)(cs:Array Value):eI (w.setRow C cs) B:=by
 obtain⟨c,t,fr,h1,h2⟩:=h;exact⟨c,t,fr,(setRow_other _ _ _ _ hne).trans h1,h2⟩
theorem RV.noint (r:RV):∀ (j:Nat) k n,r.cells.toArray[j]? ≠some (.int k n):=gY _ _ _ _ _ _ _ _
theorem PV.noint (r:PV):∀ (j:Nat) k n,r.cells.toArray[j]? ≠some (.int k n):=qB _ _ _ _ _ _ _ _ _ _ _ _ _ _ _ _
theorem RV.one (r:RV):(r.cells.toArray.all fun x=>x.oneCell')=true:=by simp[RV.cells,Value.oneCell']
theorem PV.one (r:PV):(r.cells.toArray.all fun x=>x.oneCell')=true:=by simp[PV.cells,Value.oneCell']
def bV:RV:=⟨⟨false,none,0,0⟩,⟨false,none,0,0⟩,0⟩
def aU:PV:=⟨bV,bV⟩
theorem cJ {fn:Func}{p q s:Tmp}{t1 t2:TypeId}(h:fn.results=#[.cell p t1,.cell q t2,.tmp s])(tmps:Array Value)(w:World)(g1 g2:Nat)(c1 c2:Array Value)(u1 u2:TypeId)(f1 f2:Nat×Nat)(d1 d2:TypeDesc)
  (hp:tmps.getD p undef=.pointer (some ⟨g1,0,none⟩)) (hg1:w.heap[g1]? =some (.cells c1 u1 f1))
  (hq:tmps.getD q undef=.pointer (some ⟨g2,0,none⟩)) (hg2:w.heap[g2]? =some (.cells c2 u2 f2)) {v:Value} (hv:tmps.getD s undef=v)
  (hd1:(match d1 with|.struct _|.array _ _=>true|_=>false)=true) (hd2:(match d2 with|.struct _|.array _ _=>true|_=>false)=true) (hu1:Tryz.prog.underlying t1=some d1) (hi1:(Tryz.prog.info? t1).map (·.size)=some c1.size)
  (hu2:Tryz.prog.underlying t2=some d2) (hi2:(Tryz.prog.info? t2).map (·.size)=some c2.size):
  (results fn tmps).run Tryz.prog w=.ok (.tuple #[.agg c1,.agg c2,v]) w:=by
 have hp':tmps[p]?.getD undef=.pointer (some ⟨g1,0,none⟩):=by simpa using hp
 have hq':tmps[q]?.getD undef=.pointer (some ⟨g2,0,none⟩):=by simpa using hq
 have hv':tmps[s]?.getD undef=v:=by simpa using hv
 simp[results,h,hp',hq',hv',asAddr,run_loadVar_row w g1 u1 t1 c1 f1 d1 hg1 hu1 (by cases d1<;>first|rfl|simp at hd1) hi1,run_loadVar_row w g2 u2 t2 c2 f2 d2 hg2 hu2 (by cases d2<;>first|rfl|simp at hd2) hi2]
theorem aP {o:Oper}{a:Act}{w:World}(ty:TypeId)(x:Operand)(ho:o.op=.load ty x)
  (g:Nat) (hx:a.eval x=.pointer (some ⟨g,0,none⟩)) (t:TypeId) (cs:Array Value) (fr:Nat×Nat) (d:TypeDesc) (hg:w.heap[g]? =some (.cells cs t fr))
  (hd:(match d with|.struct _|.array _ _=>true|_=>false)=true) (hu:Tryz.prog.underlying ty=some d) (hi:(Tryz.prog.info? ty).map (·.size)=some cs.size):
  (execOp a.eval o).run Tryz.prog w=.ok (.value (.agg cs)) w:=by
 unfold execOp;simp only[ho,hx,Instr.loadAt,Instr.sureAddr,Sem.run_bind,Sem.run_pure,Result.andThen_ok,run_loadVar_row w g t ty cs fr d hg hu (by cases d<;>first|rfl|simp at hd) hi]
end Go.Proofs.YtjalimkajcjapaaGreatDoor
