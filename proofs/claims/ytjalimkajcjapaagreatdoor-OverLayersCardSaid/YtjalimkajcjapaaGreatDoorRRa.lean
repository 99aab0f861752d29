import Derived.Test.YtjalimkajcjapaaGreatDoorRLc
import Derived.Deep.MidRow
namespace Go.Proofs.YtjalimkajcjapaaGreatDoor
set_option maxRecDepth 100000
open Go.RowKit Go.Lib B
def PV.turn (p:PV):PV:=⟨p.y,p.x⟩
def PtQ.turn (p:PtQ):PtQ:=⟨p.y,p.x⟩
theorem PV.turn_q (p:PV):p.turn.q=p.q.turn:=rfl
theorem PV.rd.turn {p:PV}{w:World}{S:Nat->Prop}{k:Nat}(h:p.rd w S k):p.turn.rd w S k:=⟨h.2,h.1⟩
theorem PV.at_ {p:PV}{W:World}{b:Nat}{t:TypeId}{fr:Nat×Nat}(h:W.heap[b]? =some (.cells p.cells.toArray t fr)):
  W.cell? ⟨b,0,none⟩=some (.bool p.x.nu.p)/\W.cell? ⟨b,1,none⟩=some (.slice p.x.nu.A p.x.nu.n p.x.nu.c)/\W.cell? ⟨b,2,none⟩=some (.bool p.x.de.p)/\W.cell? ⟨b,3,none⟩=some (.slice p.x.de.A p.x.de.n p.x.de.c)/\
  W.cell? ⟨b,4,none⟩=some (.bool p.y.nu.p)/\W.cell? ⟨b,5,none⟩=some (.slice p.y.nu.A p.y.nu.n p.y.nu.c)/\W.cell? ⟨b,6,none⟩=some (.bool p.y.de.p)/\W.cell? ⟨b,7,none⟩=some (.slice p.y.de.A p.y.de.n p.y.de.c):=by
 refine⟨?_,?_,?_,?_,?_,?_,?_,?_⟩<;>(rw[cell_of_row _ _ _ _ _ _ h];rfl)
set_option maxHeartbeats 2000000 in
theorem kI (p:PV)(w:World){R:Ending->World->Prop}(hR:∀ w',aB w w'->R (.returned (.agg p.turn.cells.toArray)) w'):
  Calls Tryz.prog 121 #[.agg p.cells.toArray] w R:=by
 have HR:=Lh hR;clear hR
 obtain⟨wa,hwa⟩:∃ wa,wa=(w.alloc (.cells p.cells.toArray 113)).alloc (.cells aU.cells.toArray 113):=⟨_,rfl⟩
 have GA:Hid (aB w wa):=by subst hwa;exact((aB.refl w).al _).al _
 have FP:Hid (wa.heap[w.heap.size]? =some (.cells p.cells.toArray 113 (0,0))):=by
  subst hwa;exact aR w _ _ ((aB.refl _).al _)
 have F0:Hid (wa.heap[w.heap.size+1]? =some (.cells aU.cells.toArray 113 (0,0))):=by
  subst hwa;have:=aR (w.alloc (.cells p.cells.toArray 113)) aU.cells.toArray 113 (aB.refl _)
  rwa[World.size_alloc] at this
 obtain⟨z0,z1,z2,z3,z4,z5,z6,z7⟩:=PV.at_ FP.out;go_enter Tryz.func121,Tryz.ntmps121
 go_upto_region 1 with fail
 rw[show (w.alloc (.cells p.cells.toArray 113)).alloc (.cells #[.bool false,.slice none 0 0,.bool false,.slice none 0 0,.bool false,.slice none 0 0,.bool false,.slice none 0 0] 113)=wa from hwa.symm];clear hwa;go_wp2_with (refine wpList_store_row rfl 113 _ _ rfl (w.heap.size+1) p.turn.cells.toArray rfl rfl 113 _ F0.out (by kernel_rfl) rfl (PV.one _) ?_)
 refine bodyPost_ret (v:=.agg p.turn.cells.toArray) ?_ rfl (HR.out _ (GA.out.row (by omega) _));exact results_cell_row rfl _ _ (w.heap.size+1) _ _ _ _ rfl (setRow_heap _ _ _ _ _ _ F0.out) Tryz.underlying113 rfl (by kernel_rfl)
def inQ (x:Rat)(c:Int)(ab:Bool):Bool:=if ab=true then decide ((c:Rat)<=x) else decide (x<=(c:Rat))
theorem inQ_cmp (x:Rat)(c:Int)(ab:Bool):((fR x c==0)||(decide (0<fR x c)==ab))=inQ x c ab:=by
 have e0:(fR x c==0)=decide (x=c):=by rw[Bool.eq_iff_iff,beq_iff_eq,uO,decide_eq_true_eq]
 have e1:decide (0<fR x c)=decide ((c:Rat)<x):=by rw[decide_eq_decide,uN]
 rw[e0,e1];unfold inQ
 cases ab with
 |true=>
  rw[if_pos rfl,Bool.eq_iff_iff];simp only[Bool.or_eq_true,decide_eq_true_eq,beq_iff_eq];grind
 |false=>
  rw[if_neg (by decide),Bool.eq_iff_iff];simp only[Bool.or_eq_true,decide_eq_true_eq,beq_iff_eq,decide_eq_false_iff_not];grind
set_option maxHeartbeats 2000000 in
theorem mV (p:PV)(c:Int)(ab:Bool)(k:Nat)(S:Nat->Prop)(w:World)(hp:p.rd w S k)(hk:k<=10000)(hc:I64 c){R:Ending->World->Prop}(hR:∀ w',aB w w'->R (.returned (.bool (inQ p.q.x c ab))) w'):
  Calls Tryz.prog 122 #[.agg p.cells.toArray,.int .i64 c,.bool ab] w R:=by
 rw[<-inQ_cmp] at hR;have HR:=Lh hR;clear hR;have HP:=Lh hp.1;have HK:=Lh (And.intro hk hc);clear hp hk hc;have GA:Hid (aB w (w.alloc (.cells p.cells.toArray 113))):=(aB.refl w).al _;have FP:Hid ((w.alloc (.cells p.cells.toArray 113)).heap[w.heap.size]? =some (.cells p.cells.toArray 113 (0,0))):=aR w _ _ (aB.refl _);go_enter Tryz.func122,Tryz.ntmps122
 go_upto_region 1 with fail
 generalize w.alloc (.cells p.cells.toArray 113)=wa at*;have GW:=Lh GA.out.dr;have FP:=Lh (aC (aB.refl wa).dr FP.out);refine aE (aB wa.drew) ((aB.refl _)) 4 [0,1,2,3] (by kernel_rfl) (by kernel_rfl) (by intro c a d v w h;cases d<;>exact h) ?_
 iterate 3 (apply aD;exact rfl;exact rfl;(intro W hW;obtain⟨z0,z1,z2,z3,-⟩:=PV.at_ (aC hW FP.out);(try clear hW);go_simp;with_reducible rfl);try simp only[Act.put,sA,sZ,sS])
 generalize wa.drew=wb at*;apply aG;exact rfl;exact rfl;exact rfl;intro K hK;go_simp;go_at_call 87;refine gU c _ HK.out.2 ?_;intro r w1 hg1 hq hr;have G1:=Lh (GW.out.tr hg1);have QR:=Lh hq;have RR:=Lh hr;refine hK.out _ _ hg1 ?_;clear hK hg1 hq hr
 try simp only[Act.put,sA,sZ,sS]
 refine aK ?_;simp only[List.drop_succ_cons,List.drop_zero];go_wp2_with fail
 go_at_call 93;refine jN p.x r k 4 _ _ w1 (HP.out.gr G1.out) RR.out HK.out.1 (by omega) ?_;intro w2 hg2;have G2:=Lh (G1.out.tr hg2);clear hg2;rw[QR.out];have HR2:=HR.out;unfold PV.q at HR2;dsimp only at HR2;have HR:=Lh HR2;clear HR2;generalize fR p.x.q c=m at*
 obtain⟨b0,hb0⟩:∃ b,(m==0)=b:=⟨_,rfl⟩
 obtain⟨b1,hb1⟩:∃ b,decide (0<m)=b:=⟨_,rfl⟩
 rw[hb0,hb1] at HR
 cases b0 with
 |true=>
  go_wp2;exact HR.out _ G2.out
 |false=>
  go_wp2;exact HR.out _ G2.out
def eM (p q:PtQ)(c:Int):PtQ:=⟨(c:Rat),p.y+((c:Rat)-p.x)/(q.x-p.x)*(q.y-p.y)⟩
set_option maxHeartbeats 4000000 in
theorem iQ (p q:PV)(c:Int)(k:Nat)(S:Nat->Prop)(w:World)(hp:p.rd w S k)(hq:q.rd w S k)(hk:k<=1500)(hc:I64 c)(hne:p.q.x≠q.q.x){R:Ending->World->Prop}
  (hR:∀ (r:PV) w',aB w w'->r.q=eM p.q q.q c->r.rd w' (fun b=>w.heap.size<=b) (6*k+8)->R (.returned (.agg r.cells.toArray)) w'):
  Calls Tryz.prog 123 #[.agg p.cells.toArray,.agg q.cells.toArray,.int .i64 c] w R:=by
 have HR:=Lh hR;clear hR;have HP:=Lh hp;have HQ:=Lh hq;have HK:=Lh (And.intro hk hc);have NE:=Lh hne;clear hp hq hk hc hne
 obtain⟨wa,hwa⟩:∃ wa,wa=((w.alloc (.cells p.cells.toArray 113)).alloc (.cells q.cells.toArray 113)).alloc (.cells aU.cells.toArray 113):=⟨_,rfl⟩
 have GA:Hid (aB w wa):=by subst hwa;exact(((aB.refl w).al _).al _).al _
 have FP:Hid (wa.heap[w.heap.size]? =some (.cells p.cells.toArray 113 (0,0))):=by
  subst hwa;exact aR w _ _ (((aB.refl _).al _).al _)
 have FQ:Hid (wa.heap[w.heap.size+1]? =some (.cells q.cells.toArray 113 (0,0))):=by
  subst hwa;have:=aR (w.alloc (.cells p.cells.toArray 113)) q.cells.toArray 113 ((aB.refl _).al (.cells aU.cells.toArray 113))
  rwa[World.size_alloc] at this
 have F0:Hid (wa.heap[w.heap.size+1+1]? =some (.cells aU.cells.toArray 113 (0,0))):=by
  subst hwa;have:=aR ((w.alloc (.cells p.cells.toArray 113)).alloc (.cells q.cells.toArray 113)) aU.cells.toArray 113 (aB.refl _)
  rwa[World.size_alloc,World.size_alloc] at this
 go_enter Tryz.func123,Tryz.ntmps123
 go_upto_region 1 with fail
 rw[show ((w.alloc (.cells p.cells.toArray 113)).alloc (.cells q.cells.toArray 113)).alloc (.cells #[.bool false,.slice none 0 0,.bool false,.slice none 0 0,.bool false,.slice none 0 0,.bool false,.slice none 0 0] 113)=wa from hwa.symm];clear hwa;refine oQ ⟨11,some 7,111,bV.cells.toArray⟩ 12 [0,2,3,5,6,7,8,1,4,9,10] (by kernel_rfl) (by kernel_rfl) ⟨_,rfl,rfl,rfl,fun a W K h=>by go_simp;exact h⟩ (by intro c a d v w h;cases d<;>exact h) rfl ?_;have GW:=Lh GA.out.dr;have FP:=Lh (aC (aB.refl wa).dr FP.out)
 have FQ:=Lh (aC (aB.refl wa).dr FQ.out);have F0:=Lh (aC (aB.refl wa).dr F0.out);have GB:Hid (aB wa.drew wa.drew):=aB.refl _;have EW:Hid (wa.drew.heap.size=wa.heap.size):=rfl;generalize wa.drew=wb at*
 iterate 7
  apply jF;exact rfl;(simp);(intro x1;exact rfl)
  ·intro x1 W' hW
   obtain⟨z0,z1,z2,z3,-⟩:=PV.at_ (aC hW FP.out);obtain⟨y0,y1,y2,y3,-⟩:=PV.at_ (aC hW FQ.out);clear hW;simp only[Act.put,sA,sZ,sS]
   go_simp
   with_reducible rfl
  simp only[Act.put,sA,sZ,sS]
 apply jE;exact rfl;exact rfl;(simp);(intro x1;exact rfl);intro x1 W5 hW K hK;simp only[Act.put,sA,sZ,sS]
 go_simp
 go_at_call 87;refine gU c _ HK.out.2 ?_;intro rc w1 hg hq1 hr1;have RC:=Lh hr1;have QC:=Lh hq1;clear hq1 hr1;have GB:=Lh (GB.out.tr (hW.tr hg));refine hK.out _ _ hg ?_;clear hK hW hg;simp only[Act.put,sA,sZ,sS];apply jE;exact rfl;exact rfl;(simp);(intro x1;exact rfl);intro x1 W5 hW K hK;simp only[Act.put,sA,sZ,sS]
 go_simp
 go_at_call 133;refine tY rc p.x 4 k _ _ W5 (RC.out.gr hW) (HP.out.1.gr (GW.out.tr (GB.out.tr hW))) (by omega) (by have:=HK.out.1;omega) ?_;intro rd w2 hg hq2 hr2;have RD:=Lh hr2;have QD:=Lh hq2;clear hq2 hr2 RC;have GB:=Lh (GB.out.tr (hW.tr hg));refine hK.out _ _ hg ?_;clear hK hW hg;simp only[Act.put,sA,sZ,sS];apply jE;exact rfl;exact rfl;(simp);(intro x1;exact rfl);intro x1 W5 hW K hK;simp only[Act.put,sA,sZ,sS]
 go_simp
 go_at_call 133;refine tY q.x p.x k k _ _ W5 (HQ.out.1.gr (GW.out.tr (GB.out.tr hW))) (HP.out.1.gr (GW.out.tr (GB.out.tr hW))) (by have:=HK.out.1;omega) (by have:=HK.out.1;omega) ?_;intro re w3 hg hq3 hr3;have RD:=Lh (RD.out.gr (hW.tr hg));have RE:=Lh hr3;have QE:=Lh hq3;clear hq3 hr3;have GB:=Lh (GB.out.tr (hW.tr hg));refine hK.out _ _ hg ?_;clear hK hW hg;simp only[Act.put,sA,sZ,sS]
 have NZ:Hid (re.q≠0):=by
  show _≠_;rw[QE.out];have:=NE.out;unfold PV.q at this;dsimp only at this;grind
 apply jE;exact rfl;exact rfl;(simp);(intro x1;exact rfl);intro x1 W5 hW K hK;simp only[Act.put,sA,sZ,sS]
 go_simp
 go_at_call 132;refine over_q rd re (4+k+1) (k+k+1) _ _ W5 (RD.out.gr hW) (RE.out.gr hW) (by have:=HK.out.1;omega) (by have:=HK.out.1;omega) NZ.out ?_;intro rt w4 hg hq4 hr4;have LT:Hid (wb.heap.size<=W5.heap.size):=(GB.out.tr hW).size;have RTT:=Lh (hr4.into (T:=fun b=>wb.heap.size<=b) fun b hb=>by have:=LT.out;omega);have QT:=Lh hq4;clear hq4 hr4 RD RE NZ LT;have GB:=Lh (GB.out.tr (hW.tr hg));refine hK.out _ _ hg ?_;clear hK hW hg;simp only[Act.put,sA,sZ,sS]
 refine fr1_nil ?_;intro tb V hV hb;have RTT:=Lh (RTT.out.gr hV);have GV:=Lh (GB.out.tr hV);have FT:Hid (V.heap[tb]? =some (.cells bV.cells.toArray 111 (0,0))):=hb.1;have LB:Hid (wb.heap.size<=tb):=by show _<=_;rw[EW.out];exact hb.2.1
 clear hV hb GB;unfold dG;simp only[Act.put,sA,sZ,sS,List.drop_succ_cons,List.drop_zero];have RTN:Hid (rt.rd (V.setRow tb rt.cells.toArray) (fun b=>w.heap.size<=b) (3*k+6)):=(((RTT.out.into (T:=fun b=>w.heap.size<=b) fun b hb=>by have:=GW.out.size;omega).row ⟨_,_,_,FT.out,RV.noint _⟩ _)).up (by omega);have GN:Hid (aB wb (V.setRow tb rt.cells.toArray)):=GV.out.row LB.out _
 have FTN:Hid ((V.setRow tb rt.cells.toArray).heap[tb]? =some (.cells rt.cells.toArray 111 (0,0))):=setRow_heap _ _ _ _ _ _ FT.out;go_upto_region 2 with (refine wpList_store_row rfl 111 _ _ rfl tb rt.cells.toArray rfl rfl 111 _ FT.out (by kernel_rfl) rfl (RV.one _) ?_)
 generalize V.setRow tb rt.cells.toArray=w5 at*;have GD:=Lh ((aB.refl w5).dr);have FT:=Lh (aC GD.out FTN.out);have RTN:=Lh (RTN.out.gr GD.out);have GN:=Lh (GN.out.tr GD.out);have FP:=Lh (aC GN.out FP.out);have FQ:=Lh (aC GN.out FQ.out);have F0:=Lh (aC GN.out F0.out);have GW:=Lh (GW.out.tr GN.out);clear FTN RTT GD GV LB EW;refine aE (aB w5.drew) ((aB.refl _)) 11 [0,2,3,4,5,6,7,8,1,9,10] (by kernel_rfl) (by kernel_rfl) (by intro c a d v w h;cases d<;>exact h) ?_
 iterate 3 (apply aD;exact rfl;exact rfl;(intro W hW;obtain⟨-,-,-,-,z4,z5,z6,z7⟩:=PV.at_ (aC hW FP.out);obtain⟨-,-,-,-,y4,y5,y6,y7⟩:=PV.at_ (aC hW FQ.out);(try clear hW);go_simp;with_reducible rfl);try simp only[Act.put,sA,sZ,sS])
 apply aD;exact rfl;exact rfl;(intro W hW;exact aP 111 _ rfl tb rfl 111 _ _ _ (aC hW FT.out) rfl Tryz.underlying111 (by kernel_rfl))
 try simp only[Act.put,sA,sZ,sS]
 iterate 4 (apply aD;exact rfl;exact rfl;(intro W hW;obtain⟨-,-,-,-,z4,z5,z6,z7⟩:=PV.at_ (aC hW FP.out);obtain⟨-,-,-,-,y4,y5,y6,y7⟩:=PV.at_ (aC hW FQ.out);(try clear hW);go_simp;with_reducible rfl);try simp only[Act.put,sA,sZ,sS])
 generalize w5.drew=w6 at*;clear FP FQ FT;apply aG;exact rfl;exact rfl;exact rfl;intro K hK;go_simp;go_at_call 87;refine gU c _ HK.out.2 ?_;intro rf w7 hg7 hq7 hr7;have RF:=Lh hr7;have QF:=Lh hq7;have G7:=Lh hg7;have LS7:Hid (w.heap.size<=w6.heap.size):=GW.out.size;refine hK.out _ _ hg7 ?_;clear hK hg7 hq7 hr7
 try simp only[Act.put,sA,sZ,sS]
 apply aG;exact rfl;exact rfl;exact rfl;intro K hK;go_simp;go_at_call 133;refine tY q.y p.y k k _ _ w7 (HQ.out.2.gr (GW.out.tr G7.out)) (HP.out.2.gr (GW.out.tr G7.out)) (by have:=HK.out.1;omega) (by have:=HK.out.1;omega) ?_;intro rg w8 hg8 hq8 hr8;have G8:=Lh (G7.out.tr hg8);have RF:=Lh (RF.out.gr hg8);have RG:=Lh hr8;have QG:=Lh hq8;refine hK.out _ _ G8.out ?_;clear hK hg8 hq8 hr8
 try simp only[Act.put,sA,sZ,sS]
 apply aG;exact rfl;exact rfl;exact rfl;intro K hK;go_simp;go_at_call 114;refine tH rt rg (3*k+6) (k+k+1) _ _ w8 (RTN.out.gr G8.out) RG.out (by have:=HK.out.1;omega) (by have:=HK.out.1;omega) ?_;intro rh w9 hg9 hq9 hr9;have G9:=Lh (G8.out.tr hg9);have RF:=Lh (RF.out.gr hg9);have RH:=Lh hr9;have QH:=Lh hq9;refine hK.out _ _ G9.out ?_;clear hK hg9 hq9 hr9
 try simp only[Act.put,sA,sZ,sS]
 refine aK ?_;simp only[List.drop_succ_cons,List.drop_zero];go_wp2_with fail
 go_at_call 113;refine yM p.y rh k (3*k+6+(k+k+1)) _ _ w9 (HP.out.2.gr (GW.out.tr G9.out)) RH.out (by have:=HK.out.1;omega) (by have:=HK.out.1;omega) ?_;intro ri wx hgx hqx hrx;have GX:=Lh (G9.out.tr hgx);have LS9:Hid (w.heap.size<=w9.heap.size):=(GW.out.tr G9.out).size;have RF:=Lh (((RF.out.gr hgx).into (T:=fun b=>w.heap.size<=b) fun b hb=>by have:=LS7.out;omega).up (k':=6*k+8) (by omega));have RI:=Lh ((hrx.into (T:=fun b=>w.heap.size<=b) fun b hb=>by have:=LS9.out;omega).up (k':=6*k+8) (by omega))
 have QI:=Lh hqx;have F0:=Lh (aC GX.out F0.out);have GW:=Lh (GW.out.tr GX.out);clear hgx hqx hrx G7 G8 G9 GX LS7 LS9 RG RH RTN GN;obtain⟨⟨f1,f2,f3,f4⟩,⟨f5,f6,f7,f8⟩,fq⟩:=rf;obtain⟨⟨i1,i2,i3,i4⟩,⟨i5,i6,i7,i8⟩,iq⟩:=ri;unfold RV.cells;dsimp only at QF QI ⊢
 have BN:eI wx (w.heap.size+1+1):=⟨_,_,_,F0.out,PV.noint _⟩
 go_wp2_with (refine wpList_store_row rfl 113 _ _ rfl (w.heap.size+1+1) (⟨(⟨⟨f1,f2,f3,f4⟩,⟨f5,f6,f7,f8⟩,fq⟩:RV),(⟨⟨i1,i2,i3,i4⟩,⟨i5,i6,i7,i8⟩,iq⟩:RV)⟩:PV).cells.toArray rfl rfl 113 _ F0.out (by kernel_rfl) rfl (PV.one _) ?_)
 refine bodyPost_ret (v:=.agg (⟨(⟨⟨f1,f2,f3,f4⟩,⟨f5,f6,f7,f8⟩,fq⟩:RV),(⟨⟨i1,i2,i3,i4⟩,⟨i5,i6,i7,i8⟩,iq⟩:RV)⟩:PV).cells.toArray) ?_ rfl (HR.out ⟨(⟨⟨f1,f2,f3,f4⟩,⟨f5,f6,f7,f8⟩,fq⟩:RV),(⟨⟨i1,i2,i3,i4⟩,⟨i5,i6,i7,i8⟩,iq⟩:RV)⟩ _ (GW.out.row (by omega) _) ?_ ⟨RF.out.row BN _,RI.out.row BN _⟩)
 ·exact results_cell_row rfl _ _ (w.heap.size+1+1) _ _ _ _ rfl (setRow_heap _ _ _ _ _ _ F0.out) Tryz.underlying113 rfl (by kernel_rfl)
 ·unfold eM PV.q
  dsimp only;rw[QF.out,QI.out,QH.out,QT.out,QD.out,QE.out,QG.out,QC.out]
end Go.Proofs.YtjalimkajcjapaaGreatDoor
namespace Go.Proofs.YtjalimkajcjapaaGreatDoor
set_option maxRecDepth 100000
open Go.RowKit B
def cR (c:Int)(up ab:Bool)(p q:PtQ):List PtQ:=
 if up=true then((if inQ p.turn.x c ab=true then[p.turn] else[])++(if inQ p.turn.x c ab≠inQ q.turn.x c ab then[eM p.turn q.turn c] else[])).map PtQ.turn
 else(if inQ p.x c ab=true then[p] else[])++(if inQ p.x c ab≠inQ q.x c ab then[eM p q c] else[])
def dX (c:Int)(up ab:Bool)(l:List PtQ):List PtQ:=bO (cR c up ab) l l.length
theorem half1Q_len (c:Int)(up ab:Bool)(p q:PtQ):(cR c up ab p q).length<=2:=by
 unfold cR
 split<;>(try rw[List.length_map])<;>(rw[List.length_append];split<;>split<;>simp)
structure HSt (w0:World) (ov av:Value) (out add:List PV) (K:Nat) (W:World):Prop where
 gr:aB w0 W
 oo:W.ownsRow w0.heap.size 113 8 ov out.length (PVs out)
 oa:W.ownsRow w0.heap.size 113 8 av add.length (PVs add)
 ne:∀ k,av.ownBlock=some k->ov.ownBlock≠some k
 vo:∀ p∈out,p.rd W (eO ov av) K
 va:∀ p∈add,p.rd W (eO ov av) K
theorem HSt.tr {w0:World}{ov av:Value}{out add:List PV}{K:Nat}{W W':World}(h:HSt w0 ov av out add K W)(hg:aB W W'):HSt w0 ov av out add K W':=
 ⟨h.gr.tr hg,aJ h.oo hg,aJ h.oa hg,h.ne,fun p hp=>(h.vo p hp).gr hg,fun p hp=>(h.va p hp).gr hg⟩
theorem HSt.off {w0:World}{ov av:Value}{out add:List PV}{K:Nat}{W:World}(h:HSt w0 ov av out add K W){b:Nat}(hb:W.heap.size<=b):eO ov av b:=
 ⟨fun e=>by have:=(h.oo.lt b e.symm).2;omega,fun e=>by have:=(h.oa.lt b e.symm).2;omega⟩
theorem HSt.offlow {w0:World}{ov av:Value}{out add:List PV}{K:Nat}{W:World}(h:HSt w0 ov av out add K W){b:Nat}(hb:b<w0.heap.size):eO ov av b:=
 ⟨fun e=>by have:=(h.oo.lt b e.symm).1;omega,fun e=>by have:=(h.oa.lt b e.symm).1;omega⟩
theorem HSt.nadd {w0:World}{ov av:Value}{out add:List PV}{K:Nat}{W:World}(h:HSt w0 ov av out add K W):HSt w0 ov (.slice none 0 0) out [] K W:=by
 have nn:∀ b,some b≠(Value.slice none 0 0).ownBlock:=fun b=>by simp[Value.ownBlock]
 exact⟨h.gr,h.oo,World.ownsRow_nil _ _ _ _,fun k hk=>by simp[Value.ownBlock] at hk,fun p hp=>(h.vo p hp).into fun b hb=>⟨hb.1,nn b⟩,fun p hp=>by simp at hp⟩
theorem HSt.padd {w0:World}{ov av av':Value}{out add add':List PV}{K:Nat}{W W':World}(h:HSt w0 ov av out add K W)
  (hg:W.grownBy W' av.ownBlock) (ho:W'.ownsRow w0.heap.size 113 8 av' add'.length (PVs add')) (hf:fL W av av') (hx:∀ p∈add',p.rd W (eO ov av) K):HSt w0 ov av' out add' K W':=by
 have pk:ov.ownBlock=none∨ov.ownBlock≠av.ownBlock:=by
  cases e:ov.ownBlock with
  |none=>exact .inl rfl
  |some k=>exact .inr fun e2=>h.ne k e2.symm e
 have key:∀ p:PV,p.rd W (eO ov av) K->p.rd W' (eO ov av') K:=fun p hp=>((hp.both).by_ hg (fun b hb=>hb.1.2)).into fun b hb=>⟨hb.1.1,hf.off hb.2 hb.1.2⟩
 refine⟨bK h.gr hg (cA h.oa),h.oo.kept hg pk,ho,?_,fun p hp=>key p (h.vo p hp),fun p hp=>key p (hx p hp)⟩;intro k hk e
 rcases hf with e1|⟨j,e1,hj⟩
 ·exact h.ne k (e1.symm.trans hk) e
 ·rw[hk] at e1
  injection e1 with e1
  have:=(h.oo.lt k e).2;omega
theorem HSt.pout {w0:World}{ov av ov':Value}{out out' add:List PV}{K:Nat}{W W':World}(h:HSt w0 ov av out add K W)
  (hg:W.grownBy W' ov.ownBlock) (ho:W'.ownsRow w0.heap.size 113 8 ov' out'.length (PVs out')) (hf:fL W ov ov') (hx:∀ p∈out',p.rd W (eO ov av) K):HSt w0 ov' av out' add K W':=by
 have pk:av.ownBlock=none∨av.ownBlock≠ov.ownBlock:=by
  cases e:av.ownBlock with
  |none=>exact .inl rfl
  |some k=>exact .inr fun e2=>h.ne k e e2.symm
 have key:∀ p:PV,p.rd W (eO ov av) K->p.rd W' (eO ov' av) K:=fun p hp=>((hp.both).by_ hg (fun b hb=>hb.1.1)).into fun b hb=>⟨hf.off hb.2 hb.1.1,hb.1.2⟩
 refine⟨bK h.gr hg (cA h.oo),ho,h.oa.kept hg pk,?_,fun p hp=>key p (hx p hp),fun p hp=>key p (h.va p hp)⟩;intro k hk e
 rcases hf with e1|⟨j,e1,hj⟩
 ·exact h.ne k hk (e1.symm.trans e)
 ·rw[e] at e1
  injection e1 with e1
  have:=(h.oa.lt k hk).2;omega
theorem nS {w:World}{base g n cap:Nat}{e:TypeId}{l:List PV}(h:w.ownsRow base e 8 (.slice (some ⟨g,0,none⟩) n cap) n (PVs l)){k:Nat}(_hk:k<l.length)(x:PV):
  (w.setCells g (k*8) x.cells).ownsRow base e 8 (.slice (some ⟨g,0,none⟩) n cap) n (PVs (l.set k x))/\w.grownBy (w.setCells g (k*8) x.cells) (some g):=by
 have key:∀ (vs:List Value) (o:Nat) (w:World) (xs:List Value),w.ownsRow base e 8 (.slice (some ⟨g,0,none⟩) n cap) n xs->
   ∃ ys,(w.setCells g o vs).ownsRow base e 8 (.slice (some ⟨g,0,none⟩) n cap) n ys/\w.grownBy (w.setCells g o vs) (some g)/\∀ i,ys[i]? =if o<=i/\i<o+vs.length/\i<xs.length then vs[i-o]? else xs[i]? :=by
  intro vs
  induction vs with
  |nil=>
   intro o w xs h;exact⟨xs,h,iF (aB.refl w),fun i=>by rw[if_neg (by simp;omega)]⟩
  |cons v vs ih=>
   intro o w xs h;obtain⟨h1,g1⟩:=h.stored o v;obtain⟨ys,h2,g2,h3⟩:=ih (o+1) _ _ h1;refine⟨ys,h2,kN g1 g2,fun i=>?_⟩;rw[h3 i,List.length_set,List.getElem?_set,List.length_cons]
   by_cases hi:i<xs.length
   ·by_cases h4:o+1<=i/\i<o+1+vs.length/\i<xs.length
    ·rw[if_pos h4,if_pos (by omega),show i-o=(i-(o+1))+1 by omega,List.getElem?_cons_succ]
    ·rw[if_neg h4]
     by_cases h5:o=i
     ·subst h5
      rw[if_pos rfl,if_pos hi,if_pos (by omega)];simp
     ·rw[if_neg h5,if_neg (by omega)]
   ·rw[if_neg (show ¬ (o+1<=i/\i<o+1+vs.length/\i<xs.length) from fun h=>hi h.2.2),if_neg (show ¬ (o<=i/\i<o+(vs.length+1)/\i<xs.length) from fun h=>hi h.2.2)]
    by_cases h5:o=i
    ·subst h5
     rw[if_pos rfl,if_neg hi,List.getElem?_eq_none (by omega)]
    ·rw[if_neg h5]
 obtain⟨ys,h1,h2,h3⟩:=key x.cells (k*8) w _ h;refine⟨aO h1 rfl ?_,h2⟩;apply List.ext_getElem?;intro i;rw[h3 i,lL];have hx:x.cells.length=8:=rfl;rw[hx]
 by_cases hi:i<l.length*8
 ·have hq:i/8<l.length:=by omega
  have e1:i=i/8*8+i%8:=by omega
  have e2:(PVs l)[i]? =(l[i/8]).cells[i%8]? :=by
   have:=mZ PV.cells 8 PV.cells_len l (i/8) (i%8) hq (by omega);unfold PVs;rw[<-e1] at this;exact this
  have e3:(PVs (l.set k x))[i]? =((l.set k x)[i/8]'(by rw[List.length_set];exact hq)).cells[i%8]? :=by
   have:=mZ PV.cells 8 PV.cells_len (l.set k x) (i/8) (i%8) (by rw[List.length_set];exact hq) (by omega);unfold PVs;rw[<-e1] at this;exact this
  rw[e2,e3,List.getElem_set]
  by_cases hc:k=i/8
  ·rw[if_pos hc,if_pos (by omega),show i-k*8=i%8 by omega]
  ·rw[if_neg hc,if_neg (by omega)]
 ·rw[if_neg (by omega),List.getElem?_eq_none (by rw[lL];omega),List.getElem?_eq_none (by rw[lL,List.length_set];omega)]
theorem PV.mid {l:List PV}{w wr:World}{b o:Nat}(hw:aB w wr)(hb:b<w.heap.size)(hc:∀ j u,(PVs l)[j]? =some u->w.cell? ⟨b,o+j,none⟩=some u){i:Nat}(hi:i<l.length):
  wr.cell? ⟨b,o+i*8,none⟩=some (.bool l[i].x.nu.p)/\wr.cell? ⟨b,o+i*8+1,none⟩=some (.slice l[i].x.nu.A l[i].x.nu.n l[i].x.nu.c)/\wr.cell? ⟨b,o+i*8+2,none⟩=some (.bool l[i].x.de.p)/\wr.cell? ⟨b,o+i*8+3,none⟩=some (.slice l[i].x.de.A l[i].x.de.n l[i].x.de.c)/\
  wr.cell? ⟨b,o+i*8+4,none⟩=some (.bool l[i].y.nu.p)/\wr.cell? ⟨b,o+i*8+5,none⟩=some (.slice l[i].y.nu.A l[i].y.nu.n l[i].y.nu.c)/\wr.cell? ⟨b,o+i*8+6,none⟩=some (.bool l[i].y.de.p)/\wr.cell? ⟨b,o+i*8+7,none⟩=some (.slice l[i].y.de.A l[i].y.de.n l[i].y.de.c):=by
 have e:=aL PV.cells_len hw hb hc hi;exact⟨e 0 _ rfl,e 1 _ rfl,e 2 _ rfl,e 3 _ rfl,e 4 _ rfl,e 5 _ rfl,e 6 _ rfl,e 7 _ rfl⟩
theorem eZ (p:PV):(List.foldl (fun (cs:Array Value) (x:Value×Nat)=>cs.setIfInBounds x.snd x.fst) #[Value.bool false,.slice none 0 0,.bool false,.slice none 0 0,.bool false,.slice none 0 0,.bool false,.slice none 0 0] p.cells.zipIdx).toList=p.cells:=rfl
theorem nT {w:World}{base size n:Nat}{e:TypeId}{v:Value}{xs:List Value}(h:w.ownsRow base e size v n xs)(hn:0<n):∃ g cap,v=.slice (some ⟨g,0,none⟩) n cap:=by
 obtain⟨A,c,hv⟩:=aH h
 rcases h.2 with ⟨h',_⟩|⟨g,cap,cur,h',_⟩
 ·rw[hv] at h'
  injection h' with _ h2 _
  omega
 ·exact⟨g,cap,h'⟩
theorem nJ {ad:List PV}{j:Nat}(hj:j<ad.length):((ad.take j).map PV.turn++ad.drop j).length=ad.length/\((ad.take j).map PV.turn++ad.drop j)[j]? =some ad[j]/\((ad.take j).map PV.turn++ad.drop j).set j ad[j].turn=(ad.take (j+1)).map PV.turn++ad.drop (j+1):=by
 have hl:((ad.take j).map PV.turn).length=j:=by rw[List.length_map,List.length_take];omega
 refine⟨by rw[List.length_append,hl,List.length_drop];omega,?_,?_⟩
 ·rw[List.getElem?_append_right (by omega),hl,Nat.sub_self,List.getElem?_drop,Nat.add_zero,List.getElem?_eq_getElem hj]
 ·rw[List.set_append_right _ _ (by omega),hl,Nat.sub_self,List.drop_eq_getElem_cons hj,sZ,List.take_succ_eq_append_getElem hj,List.map_append,List.append_assoc]
  rfl
def eE (c:Int)(ab:Bool)(p q:PtQ):List PtQ:=(if inQ p.x c ab=true then[p] else[])++(if inQ p.x c ab≠inQ q.x c ab then[eM p q c] else[])
theorem lD (c:Int)(ab:Bool)(p q:PtQ):cR c true ab p q=(eE c ab p.turn q.turn).map PtQ.turn:=rfl
theorem lE (c:Int)(ab:Bool)(p q:PtQ):cR c false ab p q=eE c ab p q:=rfl
set_option maxHeartbeats 16000000 in
theorem mX (l:List PV)(c:Int)(up ab:Bool)(kk:Nat)(T:Nat->Prop)(v:Value)(S:Nat->Prop)(w:World)(hb:Rd w S 8 v l.length (PVs l))(hl:l.length<=10000)(hv:∀ p∈l,p.rd w T kk)(hkk:kk<=1500)(hc:I64 c)
  {R:Ending->World->Prop}
  (hR:∀ (r:Value) (m:List PV) (w':World),w'.ownsRow w.heap.size 113 8 r m.length (PVs m)->m.map PV.q=dX c up ab (l.map PV.q)->(∀ p∈m,p.rd w' (fun _=>True) (6*kk+8))->aB w w'->R (.returned r) w'):
  Calls Tryz.prog 98 #[v,.int .i64 c,.bool up,.bool ab] w R:=by
 have HR:=Lh hR;clear hR;have hb:=hb.lt (by decide);obtain⟨_,A,cp,rfl,k1,k2,k3,k4⟩:=hb;unfold maxLen at k2;have HV:Hid (∀ p∈l,p.rd w (fun b=>b<w.heap.size) kk):=fun p hp=>(hv p hp).both.into fun b hb=>hb.2
 have HK:=Lh (And.intro hkk hc);clear hv hkk hc k3;go_enter Tryz.func98,Tryz.ntmps98
 go_wp2
 go_loopw [10,9] (fun i ov wr=>∃ (k:Nat) (out:List PV),k<=l.length/\i=.int .i64 k/\Hid (out.map PV.q=bO (cR c up ab) (l.map PV.q) k/\out.length<=2*k)/\Hid (HSt w ov (.slice none 0 0) out [] (6*kk+8) wr)) (fun i _ _=>l.length-(intOf i).toNat)
 case atStart=>exact⟨0,[],Nat.zero_le _,rfl,⟨rfl,Nat.le_refl _⟩,⟨aB.refl _,World.ownsRow_nil _ _ _ _,World.ownsRow_nil _ _ _ _,fun k hk=>by simp[Value.ownBlock] at hk,fun p hp=>by simp at hp,fun p hp=>by simp at hp⟩⟩
 case round=>
  obtain⟨k,out,hk,rfl,hct,hst⟩:=hrel;obtain⟨ao,co,rfl⟩:=aH hst.out.oo
  by_cases hlt:k<l.length
  ·obtain⟨bl,o,rfl,hS,hc⟩:=k4 (by omega)
   have hm:(k+1)%l.length<l.length:=Nat.mod_lt _ (by omega);have E0:=Lh fun W (h:aB w W)=>PV.mid h hS hc hlt
   have E1:=Lh fun W (h:aB w W)=>PV.mid h hS hc hm
   have CS:Hid (bO (cR c up ab) (l.map PV.q) (k+1)=bO (cR c up ab) (l.map PV.q) k++cR c up ab (l[k]'hlt).q (l[(k+1)%l.length]'hm).q):=by
    show _=_;have:=iI (cR c up ab) (l.map PV.q) k (by rw[List.length_map];exact hlt) (by rw[List.length_map];exact hm);simpa using this
   have RP:=Lh (HV.out _ (List.getElem_mem hlt));have RQ':=Lh (HV.out _ (List.getElem_mem hm));have z4:IntKind.i64.wrap ((k:Int)+1)=(k:Int)+1:=IntWalk.i64_in _ (by omega)
   have z5:((k:Int)+1).tmod (l.length:Int)=(((k+1)%l.length:Nat):Int):=by
    rw[Int.tmod_eq_emod_of_nonneg (by omega)];exact(Int.natCast_emod (k+1) l.length).symm
   have z6:((k:Int)+1)%(l.length:Int)=(((k+1)%l.length:Nat):Int):=(Int.natCast_emod (k+1) l.length).symm;have z1:((l.length:Int)==0)=false:=by rw[beq_eq_false_iff_ne];omega
   have z2:¬ (l.length:Int)=0:=by omega
   have z3:¬ l=[]:=by rintro rfl;simp at hlt
   have ZS:=Lh (And.intro z4 (And.intro z5 (And.intro z6 (And.intro z1 (And.intro z2 (And.intro z3 hm))))));clear z1 z2 z3 z4 z5 z6 k4 hc;generalize hmm:(k+1)%l.length=m at*;generalize l[m]=q at*;generalize l[k]=p at*;have ST:=Lh hst.out;have STR:=Lh hst.out;have CT:=Lh hct.out;have HLT:=Lh hlt;clear hst hct hmm hm;go_upto_region 5 with fail
   refine dW ⟨12,some 11,113,aU.cells.toArray⟩ ⟨13,some 12,113,aU.cells.toArray⟩ 15 [0,1,2,3,4,5,6,7,8,9,10,11] [14] (by kernel_rfl) (by kernel_rfl) (by decide) ⟨_,rfl,rfl,rfl,fun a W K h=>by go_simp;exact h⟩ ⟨_,rfl,rfl,rfl,fun a W K h=>by go_simp;exact h⟩ (by intro c a d v w h;cases d<;>exact h) u11 u12 rfl rfl ?_;have GD:Hid (aB wr wr.drew):=(aB.refl _).dr;generalize wr.drew=wb at*
   iterate 12
    apply bX;exact rfl;(simp);(simp);(intro x1 x2;exact rfl)
    ·intro x1 x2 W' hW
     obtain⟨y0,y1,y2,y3,y4,y5,y6,y7⟩:=E0.out W' (ST.out.gr.tr (GD.out.tr hW));obtain⟨v0,v1,v2,v3,v4,v5,v6,v7⟩:=E1.out W' (ST.out.gr.tr (GD.out.tr hW));obtain⟨q1,q2,q3,q4,q5,q6,q7⟩:=ZS.out;clear hW;simp only[FA.put2,Act.put,sA,sZ,sS]
     go_simp
     with_reducible rfl
    simp only[Act.put,sA,sZ,sS]
   refine mY ?_;intro b1 b2 V hV hJ hne hc1 hc2;have FP:Hid (V.heap[b1]? =some (.cells aU.cells.toArray 113 (0,0))):=hc1.2;have FQ:Hid (V.heap[b2]? =some (.cells aU.cells.toArray 113 (0,0))):=hc2.2
   have NE:Hid (b1≠b2/\b2≠b1):=⟨hne,fun e=>hne e.symm⟩
   have L1:wb.heap.size<=b1:=hc1.1;have L2:wb.heap.size<=b2:=hc2.1;have G1:aB wb (V.setRow b1 p.cells.toArray):=aB.row hV L1 _;have G2:aB wb ((V.setRow b1 p.cells.toArray).setRow b2 q.cells.toArray):=G1.row L2 _
   have LW:Hid (wr.heap.size<=b1/\wr.heap.size<=b2):=⟨Nat.le_trans GD.out.size L1,Nat.le_trans GD.out.size L2⟩
   have H2:(V.setRow b1 p.cells.toArray).heap[b2]? =some (.cells aU.cells.toArray 113 (0,0)):=(setRow_other _ _ _ _ NE.out.2).trans FQ.out;refine⟨aB wb,fun _ h=>h,hV,?_⟩;clear hV hne hc1 hc2 hJ;unfold dG FA.put2;simp only[Act.put,sA,sZ,sS,List.drop_succ_cons,List.drop_zero];apply aG;exact rfl;exact rfl;exact rfl;intro K hK;refine wp_store_row 113 _ _ rfl b1 p.cells.toArray rfl rfl 113 _ FP.out (by kernel_rfl) rfl (PV.one _) ?_;refine hK.out _ _ G1 ?_;clear hK;simp only[Act.put]
   refine aK ?_;go_upto_region 6 with (refine wpList_store_row rfl 113 _ _ rfl b2 q.cells.toArray rfl rfl 113 _ H2 (by kernel_rfl) rfl (PV.one _) ?_)
   have FQn:=Lh (setRow_heap _ b2 _ q.cells.toArray _ _ H2);have FP:=Lh ((setRow_other _ b2 b1 q.cells.toArray NE.out.1).trans (setRow_heap _ b1 _ p.cells.toArray _ _ FP.out));have FQ:=Lh FQn.out;have ST:=Lh (ST.out.tr (GD.out.tr G2));have GR:=Lh (GD.out.tr G2);clear FQn H2 G1 G2 L1 L2 GD;generalize (V.setRow b1 p.cells.toArray).setRow b2 q.cells.toArray=w5 at*
   cases up with
   |false=>
    go_upto_region 9 with fail
    have lp:(p).cells.length=8:=rfl;have IP:=Lh fun W (h:aB w W) (R:Ending->World->Prop) hR=>mV (p) c ab kk _ W ((RP.out).gr h) (by have:=HK.out.1;omega) HK.out.2 (R:=R) hR
    have IQ:=Lh fun W (h:aB w W) (R:Ending->World->Prop) hR=>mV (q) c ab kk _ W ((RQ'.out).gr h) (by have:=HK.out.1;omega) HK.out.2 (R:=R) hR
    obtain⟨a1,ha1⟩:∃ b,inQ (p).q.x c ab=b:=⟨_,rfl⟩
    obtain⟨a2,ha2⟩:∃ b,inQ (q).q.x c ab=b:=⟨_,rfl⟩
    rw[ha1] at IP;rw[ha2] at IQ;have HA1:=Lh ha1;have HA2:=Lh ha2;clear ha1 ha2;go_wp2_with (refine wpList_load_row rfl 113 _ rfl b1 rfl 113 _ _ _ FP.out Tryz.underlying113 rfl (by kernel_rfl) ?_)
    refine IP.out _ ST.out.gr _ ?_;intro w6 hg6;have ST:=Lh (ST.out.tr hg6);have FP:=Lh (aC hg6 FP.out);have FQ:=Lh (aC hg6 FQ.out);clear hg6
    cases a1 with
    |true=>
     go_upto_region 11 with (first|(refine wpList_load_row rfl 113 _ rfl b1 rfl 113 _ _ _ FP.out Tryz.underlying113 rfl (by kernel_rfl) ?_)|(at_builtin;refine aM rfl _ _ rfl iH (aJ ST.out.oa (aB.refl _)) rfl 1 _ rfl _ rfl (by decide) rfl (by simp[PV.cells,Value.oneCell']) (by decide) ST.out.gr ⟨Nat.le_refl _,ST.out.gr.size⟩ ?_;intro v7 w7 hO7 hg7 hgr7 hb7))
     simp only[eZ] at hO7;have FP:=Lh ((hgr7.block b1 (lt_of_block FP.out) (by simp[Value.ownBlock])).trans FP.out);have FQ:=Lh ((hgr7.block b2 (lt_of_block FQ.out) (by simp[Value.ownBlock])).trans FQ.out);have ST:=Lh (ST.out.padd (add':=[p]) hgr7 (aO hO7 rfl (by simp[PVs])) (hb7.elim .inl fun h=>.inr ⟨_,h,Nat.le_succ _⟩) (fun x hx=>by rw[List.mem_singleton.1 hx];exact(((RP.out).gr ST.out.gr).into fun b hb=>ST.out.offlow hb).up (by omega)));clear hO7 hg7 hgr7 hb7;have GN:=Lh ((aB.refl _:aB w7 w7).dr)
     have ST:=Lh (ST.out.tr GN.out);have FP:=Lh (aC GN.out FP.out);have FQ:=Lh (aC GN.out FQ.out);refine aE (aB (w7).drew) ((aB.refl _)) 7 [0,1,2,4,5,6,3] (by kernel_rfl) (by kernel_rfl) (by intro c a d v w h;cases d<;>exact h) ?_;apply aD;exact rfl;exact rfl;(intro W hW;exact aP 113 _ rfl b1 rfl 113 _ _ _ (aC hW FP.out) rfl Tryz.underlying113 (by kernel_rfl))
     try simp only[Act.put,sA,sZ,sS]
     iterate 2 (apply aD;exact rfl;exact rfl;(intro W hW;(try clear hW);go_simp;with_reducible rfl);try simp only[Act.put,sA,sZ,sS])
     apply aD;exact rfl;exact rfl;(intro W hW;exact aP 113 _ rfl b2 rfl 113 _ _ _ (aC hW FQ.out) rfl Tryz.underlying113 (by kernel_rfl))
     try simp only[Act.put,sA,sZ,sS]
     iterate 2 (apply aD;exact rfl;exact rfl;(intro W hW;(try clear hW);go_simp;with_reducible rfl);try simp only[Act.put,sA,sZ,sS])
     generalize (w7).drew=w8 at*;clear GN;apply aG;exact rfl;exact rfl;exact rfl;intro K hK;go_simp;refine IP.out _ ST.out.gr _ ?_;intro w9 hg9;refine hK.out _ _ hg9 ?_;have ST:=Lh (ST.out.tr hg9);have FP:=Lh (aC hg9 FP.out);have FQ:=Lh (aC hg9 FQ.out);clear hK hg9
     try simp only[Act.put,sA,sZ,sS]
     refine aK ?_;simp only[List.drop_succ_cons,List.drop_zero];go_wp2_with fail
     refine IQ.out _ ST.out.gr _ ?_;intro wa hga;have ST:=Lh (ST.out.tr hga);have FP:=Lh (aC hga FP.out);have FQ:=Lh (aC hga FQ.out);clear hga IP IQ
     cases a2 with
     |true=>
      go_upto_region 13 with fail
      have HQ1:Hid (eE c ab (p).q (q).q=([p]).map PV.q):=by
       show _=_;unfold eE;rw[HA1.out,HA2.out];simp
      clear HA1 HA2 FP FQ
      obtain⟨ad,had⟩:∃ ad:List PV,ad=([p]):=⟨_,rfl⟩
      have AL:Hid (ad.length<=2):=by show _<=_;rw[had];simp
      rw[<-had] at ST HQ1;clear had;obtain⟨aa,ca,hav⟩:=aH ST.out.oa;subst hav;have RA:=Lh (Rd.own_lt ST.out.oa);have TO:=Lh ST.out.gr;go_wp2
      go_loopw [14,9] (fun i ov wr=>∃ (j:Nat) (out':List PV),j<=ad.length/\i=.int .i64 j/\Hid (out'=out++ad.take j)/\Hid (HSt w ov (.slice aa ad.length ca) out' ad (6*kk+8) wr)) (fun i _ _=>ad.length-(intOf i).toNat)
      case atStart=>exact⟨0,out,Nat.zero_le _,rfl,Lh (by simp),ST.out⟩
      case round=>
       obtain⟨j,out',hj,rfl,ho',hst'⟩:=hrel;obtain⟨ax,cx,rfl⟩:=aH hst'.out.oo
       by_cases hjl:j<ad.length
       ·have RA:=Rd.own_lt hst'.out.oa
        obtain⟨_,A',c',hv,p1,p2,-,p4⟩:=RA;injection hv with e1 e2 e3
        clear e2;subst e1 e3;unfold maxLen at p2;obtain⟨b5,o5,rfl,hS5,hc5⟩:=p4 (by omega);obtain⟨y0,y1,y2,y3,y4,y5,y6,y7⟩:=PV.mid (aB.refl wr) hS5 hc5 hjl;have VA:=Lh (hst'.out.va _ (List.getElem_mem hjl));have OT:Hid (out'++[ad[j]'hjl]=out++ad.take (j+1)):=by show _=_;rw[ho'.out,List.take_succ_eq_append_getElem hjl,List.append_assoc]
        have LO:Hid (out'.length<=50000):=by show _<=_;rw[ho'.out,List.length_append,List.length_take];have:=CT.out.2;have:=AL.out;have:=HLT.out;omega
        have ST:=Lh hst'.out;clear hst' ho' hc5 p4;generalize ad[j]'hjl=x at*;go_upto_region 15 with (at_builtin;refine aM rfl _ _ rfl iH (aJ ST.out.oo (aB.refl _)) rfl 1 _ rfl _ rfl (by decide) rfl (by simp[Value.oneCell']) (by have:=LO.out;omega) ST.out.gr ⟨Nat.le_refl _,ST.out.gr.size⟩ ?_;intro v9 w9 hO9 hg9 hgr9 hb9)
        have STF:=Lh (ST.out.pout (out':=out'++[x]) hgr9 (aO hO9 (by simp) (show PVs out'++_=PVs (out'++[x]) by rw[jS];rfl)) (hb9.elim .inl fun h=>.inr ⟨_,h,Nat.le_succ _⟩) (fun y hy=>by
         rcases List.mem_append.1 hy with h|h
         ·exact ST.out.vo y h
         ·rw[List.mem_singleton.1 h];exact VA.out))
        clear hO9 hg9 hgr9 hb9 ST y0 y1 y2 y3 y4 y5 y6 y7;go_wp2;go_roundw
        case rel=>exact⟨j+1,out'++[x],by omega,by go_num,OT.out,STF.out⟩
        case measure=>simp[intOf];omega
       ·obtain rfl:j=ad.length:=by omega
        have OE:Hid (out'=out++ad):=by show _=_;rw[ho'.out,List.take_length]
        have ST:=Lh hst'.out;clear ho' hst'
        have EF:Hid (out'.map PV.q=bO (cR c false ab) (l.map PV.q) (k+1)/\out'.length<=2*(k+1)):=by
         show _/\_;rw[CS.out,<-CT.out.1,OE.out,lE,HQ1.out,List.map_append,List.length_append];exact⟨rfl,by have:=CT.out.2;have:=AL.out;omega⟩
        have STN:=Lh ST.out.nadd;go_wp2;go_roundw
        case rel=>exact⟨k+1,out',by have:=HLT.out;omega,by go_num,EF.out,STN.out⟩
        case measure=>have:=HLT.out;simp[intOf];omega
     |false=>
      have XNE:Hid ((p).q.x≠(q).q.x):=fun e=>by
       have h1:=HA1.out;have h2:=HA2.out;rw[e,h2] at h1
       cases h1
      have CX:=Lh fun W (h:aB w W) (R:Ending->World->Prop) hR=>iQ (p) (q) c kk _ W ((RP.out).gr h) ((RQ'.out).gr h) HK.out.1 HK.out.2 XNE.out (R:=R) hR
      go_wp2_with (first|(refine wpList_load_row rfl 113 _ rfl b1 rfl 113 _ _ _ FP.out Tryz.underlying113 rfl (by kernel_rfl) ?_)|(refine wpList_load_row rfl 113 _ rfl b2 rfl 113 _ _ _ FQ.out Tryz.underlying113 rfl (by kernel_rfl) ?_))
      refine CX.out _ ST.out.gr _ ?_;intro r wc hgc hrq hrr;have RX:=Lh (hrr.into (T:=eO _ _) fun b hb=>ST.out.off hb)
      have HQ1:Hid (eE c ab (p).q (q).q=([p]++[r]).map PV.q):=by
       show _=_;unfold eE;rw[HA1.out,HA2.out];simp[hrq]
      have lr:r.cells.length=8:=rfl;have ST:=Lh (ST.out.tr hgc);have FP:=Lh (aC hgc FP.out);have FQ:=Lh (aC hgc FQ.out);clear hgc hrq hrr CX XNE HA1 HA2;go_upto_region 13 with (at_builtin;refine aM rfl _ _ rfl iH (aJ ST.out.oa (aB.refl _)) rfl 1 _ rfl _ rfl (by decide) rfl (by simp[PV.cells,Value.oneCell']) (by simp) ST.out.gr ⟨Nat.le_refl _,ST.out.gr.size⟩ ?_;intro v7 wd hO7 hg7 hgr7 hb7)
      simp only[eZ] at hO7
      have ST:=Lh (ST.out.padd (add':=[p]++[r]) hgr7 (aO hO7 (by simp) (by simp[PVs])) (hb7.elim .inl fun h=>.inr ⟨_,h,Nat.le_succ _⟩) (fun x hx=>by
       rcases List.mem_append.1 hx with h|h
       ·exact ST.out.va x h
       ·rw[List.mem_singleton.1 h];exact RX.out))
      clear hO7 hg7 hgr7 hb7 FP FQ RX
      obtain⟨ad,had⟩:∃ ad:List PV,ad=([p]++[r]):=⟨_,rfl⟩
      have AL:Hid (ad.length<=2):=by show _<=_;rw[had];simp
      rw[<-had] at ST HQ1;clear had;obtain⟨aa,ca,hav⟩:=aH ST.out.oa;subst hav;have RA:=Lh (Rd.own_lt ST.out.oa);have TO:=Lh ST.out.gr;go_wp2
      go_loopw [14,9] (fun i ov wr=>∃ (j:Nat) (out':List PV),j<=ad.length/\i=.int .i64 j/\Hid (out'=out++ad.take j)/\Hid (HSt w ov (.slice aa ad.length ca) out' ad (6*kk+8) wr)) (fun i _ _=>ad.length-(intOf i).toNat)
      case atStart=>exact⟨0,out,Nat.zero_le _,rfl,Lh (by simp),ST.out⟩
      case round=>
       obtain⟨j,out',hj,rfl,ho',hst'⟩:=hrel;obtain⟨ax,cx,rfl⟩:=aH hst'.out.oo
       by_cases hjl:j<ad.length
       ·have RA:=Rd.own_lt hst'.out.oa
        obtain⟨_,A',c',hv,p1,p2,-,p4⟩:=RA;injection hv with e1 e2 e3
        clear e2;subst e1 e3;unfold maxLen at p2;obtain⟨b5,o5,rfl,hS5,hc5⟩:=p4 (by omega);obtain⟨y0,y1,y2,y3,y4,y5,y6,y7⟩:=PV.mid (aB.refl wr) hS5 hc5 hjl;have VA:=Lh (hst'.out.va _ (List.getElem_mem hjl));have OT:Hid (out'++[ad[j]'hjl]=out++ad.take (j+1)):=by show _=_;rw[ho'.out,List.take_succ_eq_append_getElem hjl,List.append_assoc]
        have LO:Hid (out'.length<=50000):=by show _<=_;rw[ho'.out,List.length_append,List.length_take];have:=CT.out.2;have:=AL.out;have:=HLT.out;omega
        have ST:=Lh hst'.out;clear hst' ho' hc5 p4;generalize ad[j]'hjl=x at*;go_upto_region 15 with (at_builtin;refine aM rfl _ _ rfl iH (aJ ST.out.oo (aB.refl _)) rfl 1 _ rfl _ rfl (by decide) rfl (by simp[Value.oneCell']) (by have:=LO.out;omega) ST.out.gr ⟨Nat.le_refl _,ST.out.gr.size⟩ ?_;intro v9 w9 hO9 hg9 hgr9 hb9)
        have STF:=Lh (ST.out.pout (out':=out'++[x]) hgr9 (aO hO9 (by simp) (show PVs out'++_=PVs (out'++[x]) by rw[jS];rfl)) (hb9.elim .inl fun h=>.inr ⟨_,h,Nat.le_succ _⟩) (fun y hy=>by
         rcases List.mem_append.1 hy with h|h
         ·exact ST.out.vo y h
         ·rw[List.mem_singleton.1 h];exact VA.out))
        clear hO9 hg9 hgr9 hb9 ST y0 y1 y2 y3 y4 y5 y6 y7;go_wp2;go_roundw
        case rel=>exact⟨j+1,out'++[x],by omega,by go_num,OT.out,STF.out⟩
        case measure=>simp[intOf];omega
       ·obtain rfl:j=ad.length:=by omega
        have OE:Hid (out'=out++ad):=by show _=_;rw[ho'.out,List.take_length]
        have ST:=Lh hst'.out;clear ho' hst'
        have EF:Hid (out'.map PV.q=bO (cR c false ab) (l.map PV.q) (k+1)/\out'.length<=2*(k+1)):=by
         show _/\_;rw[CS.out,<-CT.out.1,OE.out,lE,HQ1.out,List.map_append,List.length_append];exact⟨rfl,by have:=CT.out.2;have:=AL.out;omega⟩
        have STN:=Lh ST.out.nadd;go_wp2;go_roundw
        case rel=>exact⟨k+1,out',by have:=HLT.out;omega,by go_num,EF.out,STN.out⟩
        case measure=>have:=HLT.out;simp[intOf];omega
    |false=>
     go_upto_region 11 with fail
     have GN:=Lh ((aB.refl _:aB w6 w6).dr);have ST:=Lh (ST.out.tr GN.out);have FP:=Lh (aC GN.out FP.out);have FQ:=Lh (aC GN.out FQ.out);refine aE (aB (w6).drew) ((aB.refl _)) 7 [0,1,2,4,5,6,3] (by kernel_rfl) (by kernel_rfl) (by intro c a d v w h;cases d<;>exact h) ?_;apply aD;exact rfl;exact rfl;(intro W hW;exact aP 113 _ rfl b1 rfl 113 _ _ _ (aC hW FP.out) rfl Tryz.underlying113 (by kernel_rfl))
     try simp only[Act.put,sA,sZ,sS]
     iterate 2 (apply aD;exact rfl;exact rfl;(intro W hW;(try clear hW);go_simp;with_reducible rfl);try simp only[Act.put,sA,sZ,sS])
     apply aD;exact rfl;exact rfl;(intro W hW;exact aP 113 _ rfl b2 rfl 113 _ _ _ (aC hW FQ.out) rfl Tryz.underlying113 (by kernel_rfl))
     try simp only[Act.put,sA,sZ,sS]
     iterate 2 (apply aD;exact rfl;exact rfl;(intro W hW;(try clear hW);go_simp;with_reducible rfl);try simp only[Act.put,sA,sZ,sS])
     generalize (w6).drew=w8 at*;clear GN;apply aG;exact rfl;exact rfl;exact rfl;intro K hK;go_simp;refine IP.out _ ST.out.gr _ ?_;intro w9 hg9;refine hK.out _ _ hg9 ?_;have ST:=Lh (ST.out.tr hg9);have FP:=Lh (aC hg9 FP.out);have FQ:=Lh (aC hg9 FQ.out);clear hK hg9
     try simp only[Act.put,sA,sZ,sS]
     refine aK ?_;simp only[List.drop_succ_cons,List.drop_zero];go_wp2_with fail
     refine IQ.out _ ST.out.gr _ ?_;intro wa hga;have ST:=Lh (ST.out.tr hga);have FP:=Lh (aC hga FP.out);have FQ:=Lh (aC hga FQ.out);clear hga IP IQ
     cases a2 with
     |false=>
      go_upto_region 13 with fail
      have HQ1:Hid (eE c ab (p).q (q).q=(([]:List PV)).map PV.q):=by
       show _=_;unfold eE;rw[HA1.out,HA2.out];simp
      clear HA1 HA2 FP FQ;have STN:=Lh ST.out.nadd;have GX:Hid (aB w wa):=ST.out.gr
      have EF:Hid (out.map PV.q=bO (cR c false ab) (l.map PV.q) (k+1)/\out.length<=2*(k+1)):=by
       show _/\_;rw[CS.out,<-CT.out.1,lE,HQ1.out];exact⟨by simp,by have:=CT.out.2;omega⟩
      clear ST HQ1;go_wp2
      go_loopw [14,9] (fun i ov wr=>i=.int .i64 0/\ov=.slice ao out.length co/\Hid (HSt w (.slice ao out.length co) (.slice none 0 0) out [] (6*kk+8) wr)) (fun _ _ _=>0)
      case atStart=>exact⟨rfl,rfl,STN.out⟩
      case round=>
       obtain⟨rfl,rfl,hst'⟩:=hrel;go_wp2;go_roundw
       case rel=>exact⟨k+1,out,by have:=HLT.out;omega,by go_num,EF.out,hst'.out⟩
       case measure=>have:=HLT.out;simp[intOf];omega
     |true=>
      have XNE:Hid ((p).q.x≠(q).q.x):=fun e=>by
       have h1:=HA1.out;have h2:=HA2.out;rw[e,h2] at h1
       cases h1
      have CX:=Lh fun W (h:aB w W) (R:Ending->World->Prop) hR=>iQ (p) (q) c kk _ W ((RP.out).gr h) ((RQ'.out).gr h) HK.out.1 HK.out.2 XNE.out (R:=R) hR
      go_wp2_with (first|(refine wpList_load_row rfl 113 _ rfl b1 rfl 113 _ _ _ FP.out Tryz.underlying113 rfl (by kernel_rfl) ?_)|(refine wpList_load_row rfl 113 _ rfl b2 rfl 113 _ _ _ FQ.out Tryz.underlying113 rfl (by kernel_rfl) ?_))
      refine CX.out _ ST.out.gr _ ?_;intro r wc hgc hrq hrr;have RX:=Lh (hrr.into (T:=eO _ _) fun b hb=>ST.out.off hb)
      have HQ1:Hid (eE c ab (p).q (q).q=(([]:List PV)++[r]).map PV.q):=by
       show _=_;unfold eE;rw[HA1.out,HA2.out];simp[hrq]
      have lr:r.cells.length=8:=rfl;have ST:=Lh (ST.out.tr hgc);have FP:=Lh (aC hgc FP.out);have FQ:=Lh (aC hgc FQ.out);clear hgc hrq hrr CX XNE HA1 HA2;go_upto_region 13 with (at_builtin;refine aM rfl _ _ rfl iH (aJ ST.out.oa (aB.refl _)) rfl 1 _ rfl _ rfl (by decide) rfl (by simp[PV.cells,Value.oneCell']) (by simp) ST.out.gr ⟨Nat.le_refl _,ST.out.gr.size⟩ ?_;intro v7 wd hO7 hg7 hgr7 hb7)
      simp only[eZ] at hO7
      have ST:=Lh (ST.out.padd (add':=([]:List PV)++[r]) hgr7 (aO hO7 (by simp) (by simp[PVs])) (hb7.elim .inl fun h=>.inr ⟨_,h,Nat.le_succ _⟩) (fun x hx=>by
       rcases List.mem_append.1 hx with h|h
       ·exact ST.out.va x h
       ·rw[List.mem_singleton.1 h];exact RX.out))
      clear hO7 hg7 hgr7 hb7 FP FQ RX
      obtain⟨ad,had⟩:∃ ad:List PV,ad=(([]:List PV)++[r]):=⟨_,rfl⟩
      have AL:Hid (ad.length<=2):=by show _<=_;rw[had];simp
      rw[<-had] at ST HQ1;clear had;obtain⟨aa,ca,hav⟩:=aH ST.out.oa;subst hav;have RA:=Lh (Rd.own_lt ST.out.oa);have TO:=Lh ST.out.gr;go_wp2
      go_loopw [14,9] (fun i ov wr=>∃ (j:Nat) (out':List PV),j<=ad.length/\i=.int .i64 j/\Hid (out'=out++ad.take j)/\Hid (HSt w ov (.slice aa ad.length ca) out' ad (6*kk+8) wr)) (fun i _ _=>ad.length-(intOf i).toNat)
      case atStart=>exact⟨0,out,Nat.zero_le _,rfl,Lh (by simp),ST.out⟩
      case round=>
       obtain⟨j,out',hj,rfl,ho',hst'⟩:=hrel;obtain⟨ax,cx,rfl⟩:=aH hst'.out.oo
       by_cases hjl:j<ad.length
       ·have RA:=Rd.own_lt hst'.out.oa
        obtain⟨_,A',c',hv,p1,p2,-,p4⟩:=RA;injection hv with e1 e2 e3
        clear e2;subst e1 e3;unfold maxLen at p2;obtain⟨b5,o5,rfl,hS5,hc5⟩:=p4 (by omega);obtain⟨y0,y1,y2,y3,y4,y5,y6,y7⟩:=PV.mid (aB.refl wr) hS5 hc5 hjl;have VA:=Lh (hst'.out.va _ (List.getElem_mem hjl));have OT:Hid (out'++[ad[j]'hjl]=out++ad.take (j+1)):=by show _=_;rw[ho'.out,List.take_succ_eq_append_getElem hjl,List.append_assoc]
        have LO:Hid (out'.length<=50000):=by show _<=_;rw[ho'.out,List.length_append,List.length_take];have:=CT.out.2;have:=AL.out;have:=HLT.out;omega
        have ST:=Lh hst'.out;clear hst' ho' hc5 p4;generalize ad[j]'hjl=x at*;go_upto_region 15 with (at_builtin;refine aM rfl _ _ rfl iH (aJ ST.out.oo (aB.refl _)) rfl 1 _ rfl _ rfl (by decide) rfl (by simp[Value.oneCell']) (by have:=LO.out;omega) ST.out.gr ⟨Nat.le_refl _,ST.out.gr.size⟩ ?_;intro v9 w9 hO9 hg9 hgr9 hb9)
        have STF:=Lh (ST.out.pout (out':=out'++[x]) hgr9 (aO hO9 (by simp) (show PVs out'++_=PVs (out'++[x]) by rw[jS];rfl)) (hb9.elim .inl fun h=>.inr ⟨_,h,Nat.le_succ _⟩) (fun y hy=>by
         rcases List.mem_append.1 hy with h|h
         ·exact ST.out.vo y h
         ·rw[List.mem_singleton.1 h];exact VA.out))
        clear hO9 hg9 hgr9 hb9 ST y0 y1 y2 y3 y4 y5 y6 y7;go_wp2;go_roundw
        case rel=>exact⟨j+1,out'++[x],by omega,by go_num,OT.out,STF.out⟩
        case measure=>simp[intOf];omega
       ·obtain rfl:j=ad.length:=by omega
        have OE:Hid (out'=out++ad):=by show _=_;rw[ho'.out,List.take_length]
        have ST:=Lh hst'.out;clear ho' hst'
        have EF:Hid (out'.map PV.q=bO (cR c false ab) (l.map PV.q) (k+1)/\out'.length<=2*(k+1)):=by
         show _/\_;rw[CS.out,<-CT.out.1,OE.out,lE,HQ1.out,List.map_append,List.length_append];exact⟨rfl,by have:=CT.out.2;have:=AL.out;omega⟩
        have STN:=Lh ST.out.nadd;go_wp2;go_roundw
        case rel=>exact⟨k+1,out',by have:=HLT.out;omega,by go_num,EF.out,STN.out⟩
        case measure=>have:=HLT.out;simp[intOf];omega
   |true=>
    go_upto_region 7 with fail
    have GN:=Lh ((aB.refl w5).dr);have ST:=Lh (ST.out.tr GN.out);have FP:=Lh (aC GN.out FP.out);have FQ:=Lh (aC GN.out FQ.out);have GR:=Lh (GR.out.tr GN.out);clear GN;refine aE (aB w5.drew) ((aB.refl _)) 3 [0,2,1] (by kernel_rfl) (by kernel_rfl) (by intro c a d v w h;cases d<;>exact h) ?_;apply aD;exact rfl;exact rfl;(intro W hW;exact aP 113 _ rfl b1 rfl 113 _ _ _ (aC hW FP.out) rfl Tryz.underlying113 (by kernel_rfl))
    try simp only[Act.put,sA,sZ,sS]
    apply aD;exact rfl;exact rfl;(intro W hW;exact aP 113 _ rfl b2 rfl 113 _ _ _ (aC hW FQ.out) rfl Tryz.underlying113 (by kernel_rfl))
    try simp only[Act.put,sA,sZ,sS]
    generalize w5.drew=w6 at*;apply aG;exact rfl;exact rfl;exact rfl;intro K hK;go_simp;refine kI p _ ?_;intro w7 hg7;refine hK.out _ _ hg7 ?_;have GR:=Lh (GR.out.tr hg7);have ST:=Lh (ST.out.tr hg7);have FP:=Lh (aC hg7 FP.out);have FQ:=Lh (aC hg7 FQ.out);clear hK hg7
    try simp only[Act.put,sA,sZ,sS]
    refine aK ?_;simp only[List.drop_succ_cons,List.drop_zero];go_wp2_with fail
    refine kI q _ ?_;intro w8 hg8;have GR:=Lh (GR.out.tr hg8);have ST:=Lh (ST.out.tr hg8);have FP:=Lh (aC hg8 FP.out);have FQ:=Lh (aC hg8 FQ.out);clear hg8 ST;have H2:=Lh ((setRow_other w8 b1 b2 p.turn.cells.toArray NE.out.2).trans FQ.out);go_upto_region 9 with (first|(refine wpList_store_row rfl 113 _ _ rfl b1 p.turn.cells.toArray rfl rfl 113 _ FP.out (by kernel_rfl) rfl (PV.one _) ?_)|(refine wpList_store_row rfl 113 _ _ rfl b2 q.turn.cells.toArray rfl rfl 113 _ H2.out (by kernel_rfl) rfl (PV.one _) ?_))
    have ST:=Lh (STR.out.tr ((GR.out.row LW.out.1 p.turn.cells.toArray).row LW.out.2 q.turn.cells.toArray));have FQn:=Lh (setRow_heap _ b2 _ q.turn.cells.toArray _ _ H2.out);have FP:=Lh ((setRow_other _ b2 b1 q.turn.cells.toArray NE.out.1).trans (setRow_heap _ b1 _ p.turn.cells.toArray _ _ FP.out));have FQ:=Lh FQn.out;clear FQn H2 GR;generalize (w8.setRow b1 p.turn.cells.toArray).setRow b2 q.turn.cells.toArray=w9 at*;have lp:(p.turn).cells.length=8:=rfl
    have IP:=Lh fun W (h:aB w W) (R:Ending->World->Prop) hR=>mV (p.turn) c ab kk _ W ((RP.out.turn).gr h) (by have:=HK.out.1;omega) HK.out.2 (R:=R) hR
    have IQ:=Lh fun W (h:aB w W) (R:Ending->World->Prop) hR=>mV (q.turn) c ab kk _ W ((RQ'.out.turn).gr h) (by have:=HK.out.1;omega) HK.out.2 (R:=R) hR
    obtain⟨a1,ha1⟩:∃ b,inQ (p.turn).q.x c ab=b:=⟨_,rfl⟩
    obtain⟨a2,ha2⟩:∃ b,inQ (q.turn).q.x c ab=b:=⟨_,rfl⟩
    rw[ha1] at IP;rw[ha2] at IQ;have HA1:=Lh ha1;have HA2:=Lh ha2;clear ha1 ha2;go_wp2_with (refine wpList_load_row rfl 113 _ rfl b1 rfl 113 _ _ _ FP.out Tryz.underlying113 rfl (by kernel_rfl) ?_)
    refine IP.out _ ST.out.gr _ ?_;intro w6 hg6;have ST:=Lh (ST.out.tr hg6);have FP:=Lh (aC hg6 FP.out);have FQ:=Lh (aC hg6 FQ.out);clear hg6
    cases a1 with
    |true=>
     go_upto_region 11 with (first|(refine wpList_load_row rfl 113 _ rfl b1 rfl 113 _ _ _ FP.out Tryz.underlying113 rfl (by kernel_rfl) ?_)|(at_builtin;refine aM rfl _ _ rfl iH (aJ ST.out.oa (aB.refl _)) rfl 1 _ rfl _ rfl (by decide) rfl (by simp[PV.cells,Value.oneCell']) (by decide) ST.out.gr ⟨Nat.le_refl _,ST.out.gr.size⟩ ?_;intro v7 w7 hO7 hg7 hgr7 hb7))
     simp only[eZ] at hO7;have FP:=Lh ((hgr7.block b1 (lt_of_block FP.out) (by simp[Value.ownBlock])).trans FP.out);have FQ:=Lh ((hgr7.block b2 (lt_of_block FQ.out) (by simp[Value.ownBlock])).trans FQ.out);have ST:=Lh (ST.out.padd (add':=[p.turn]) hgr7 (aO hO7 rfl (by simp[PVs])) (hb7.elim .inl fun h=>.inr ⟨_,h,Nat.le_succ _⟩) (fun x hx=>by rw[List.mem_singleton.1 hx];exact(((RP.out.turn).gr ST.out.gr).into fun b hb=>ST.out.offlow hb).up (by omega)));clear hO7 hg7 hgr7 hb7;have GN:=Lh ((aB.refl _:aB w7 w7).dr)
     have ST:=Lh (ST.out.tr GN.out);have FP:=Lh (aC GN.out FP.out);have FQ:=Lh (aC GN.out FQ.out);refine aE (aB (w7).drew) ((aB.refl _)) 7 [0,1,2,4,5,6,3] (by kernel_rfl) (by kernel_rfl) (by intro c a d v w h;cases d<;>exact h) ?_;apply aD;exact rfl;exact rfl;(intro W hW;exact aP 113 _ rfl b1 rfl 113 _ _ _ (aC hW FP.out) rfl Tryz.underlying113 (by kernel_rfl))
     try simp only[Act.put,sA,sZ,sS]
     iterate 2 (apply aD;exact rfl;exact rfl;(intro W hW;(try clear hW);go_simp;with_reducible rfl);try simp only[Act.put,sA,sZ,sS])
     apply aD;exact rfl;exact rfl;(intro W hW;exact aP 113 _ rfl b2 rfl 113 _ _ _ (aC hW FQ.out) rfl Tryz.underlying113 (by kernel_rfl))
     try simp only[Act.put,sA,sZ,sS]
     iterate 2 (apply aD;exact rfl;exact rfl;(intro W hW;(try clear hW);go_simp;with_reducible rfl);try simp only[Act.put,sA,sZ,sS])
     generalize (w7).drew=w8 at*;clear GN;apply aG;exact rfl;exact rfl;exact rfl;intro K hK;go_simp;refine IP.out _ ST.out.gr _ ?_;intro w9 hg9;refine hK.out _ _ hg9 ?_;have ST:=Lh (ST.out.tr hg9);have FP:=Lh (aC hg9 FP.out);have FQ:=Lh (aC hg9 FQ.out);clear hK hg9
     try simp only[Act.put,sA,sZ,sS]
     refine aK ?_;simp only[List.drop_succ_cons,List.drop_zero];go_wp2_with fail
     refine IQ.out _ ST.out.gr _ ?_;intro wa hga;have ST:=Lh (ST.out.tr hga);have FP:=Lh (aC hga FP.out);have FQ:=Lh (aC hga FQ.out);clear hga IP IQ
     cases a2 with
     |true=>
      go_upto_region 13 with fail
      have HQ1:Hid (eE c ab (p.turn).q (q.turn).q=([p.turn]).map PV.q):=by
       show _=_;unfold eE;rw[HA1.out,HA2.out];simp
      clear HA1 HA2 FP FQ
      obtain⟨ad,had⟩:∃ ad:List PV,ad=([p.turn]):=⟨_,rfl⟩
      have AL:Hid (ad.length<=2):=by show _<=_;rw[had];simp
      rw[<-had] at ST HQ1;clear had;obtain⟨aa,ca,hav⟩:=aH ST.out.oa;subst hav;go_wp2
      go_loopw [14,9] (fun i ov wr=>∃ (j:Nat) (out':List PV),j<=ad.length/\i=.int .i64 j/\Hid (out'=out++(ad.take j).map PV.turn)/\Hid (HSt w ov (.slice aa ad.length ca) out' ((ad.take j).map PV.turn++ad.drop j) (6*kk+8) wr)) (fun i _ _=>ad.length-(intOf i).toNat)
      case atStart=>exact⟨0,out,Nat.zero_le _,rfl,Lh (by simp),Lh (by simpa using ST.out)⟩
      case round=>
       obtain⟨j,out',hj,rfl,ho',hst'⟩:=hrel;obtain⟨ax,cx,rfl⟩:=aH hst'.out.oo
       by_cases hjl:j<ad.length
       ·obtain⟨t1,t2,t3⟩:=nJ hjl
        have OT:Hid (out'++[(ad[j]'hjl).turn]=out++(ad.take (j+1)).map PV.turn):=by show _=_;rw[ho'.out,List.take_succ_eq_append_getElem hjl,List.map_append,List.append_assoc];rfl
        have LO:Hid (out'.length<=50000):=by show _<=_;rw[ho'.out,List.length_append,List.length_map,List.length_take];have:=CT.out.2;have:=AL.out;have:=HLT.out;omega
        have ST:=Lh hst'.out;clear hst' ho';generalize hx:ad[j]'hjl=x at*;generalize had':(ad.take j).map PV.turn++ad.drop j=ad' at*;have T3:=Lh t3;have oa:=ST.out.oa;rw[t1] at oa;obtain⟨g,cg,hg⟩:=nT oa (by omega);injection hg with e1 e2 e3
        subst e1 e3;clear e2;have hj':j<ad'.length:=by omega
        have VX:=Lh (ST.out.va x (List.mem_of_getElem? t2));have RA:=Rd.own_lt oa;obtain⟨_,A',c',hv,p1,p2,-,p4⟩:=RA;injection hv with e1 e2 e3
        clear e2;subst e3;unfold maxLen at p2;obtain⟨b5,o5,hA5,hS5,hc5⟩:=p4 (by omega);subst e1;injection hA5 with hA5
        injection hA5 with q1 q2 q3
        subst q1 q2;obtain⟨y0,y1,y2,y3,y4,y5,y6,y7⟩:=PV.mid (aB.refl wr) hS5 hc5 hj';have hx':ad'[j]'hj'=x:=by rw[List.getElem?_eq_getElem hj'] at t2;exact Option.some.inj t2
        rw[hx'] at y0 y1 y2 y3 y4 y5 y6 y7;simp only[Nat.zero_add] at y0 y1 y2 y3 y4 y5 y6 y7;have MX:Hid (x∈ad'):=List.mem_of_getElem? t2;have T1:=Lh t1;clear hx' hc5 p4 t2 t3 oa VX;go_wp2_with fail
        refine kI x _ ?_;intro wt hgt;have ST:=Lh (ST.out.tr hgt);clear hgt y0 y1 y2 y3 y4 y5 y6 y7;have oa:=ST.out.oa;rw[T1.out] at oa
        have HT:Hid (wt.there g (j*8) 8):=fun i hi=>⟨by
         rw[World.ownsRow.cellAt oa (j*8+i) (by omega),List.getElem?_eq_getElem (by rw[lL];omega)]
         rfl,World.ownsRow.frozenAt oa _⟩
        obtain⟨os,gs⟩:=nS oa hj' x.turn;have ls:(ad'.set j x.turn).length=ad.length:=by rw[List.length_set,T1.out]
        have ST2:=Lh (ST.out.padd (add':=ad'.set j x.turn) (by simpa [Value.ownBlock] using gs) (aO os ls.symm rfl) (.inl rfl) (fun y hy=>(List.mem_or_eq_of_mem_set hy).elim (fun h=>ST.out.va y h) (fun h=>by rw[h];exact(ST.out.va x MX.out).turn)));have LS:=Lh ls;clear os gs ls oa ST;go_upto_region 18 with (refine wpList_store_mid rfl 113 _ _ rfl g (j*8) x.turn.cells.toArray rfl rfl HT.out (by kernel_rfl) (PV.one _) ?_)
        rw[show wt.setCells g (j*8) x.turn.cells.toArray.toList=wt.setCells g (j*8) x.turn.cells from rfl];generalize wt.setCells g (j*8) x.turn.cells=ws at*;have oa:=ST2.out.oa;rw[LS.out] at oa;obtain⟨_,A',c',hv,-,-,-,p4⟩:=Rd.own_lt oa;injection hv with e1 e2 e3
        clear e2;subst e3;obtain⟨b5,o5,hA5,hS6,hc6⟩:=p4 (by omega);subst e1;injection hA5 with hA5
        injection hA5 with q1 q2 q3
        subst q1 q2;have hj6:j<(ad'.set j x.turn).length:=by rw[LS.out];exact hjl
        obtain⟨y0,y1,y2,y3,y4,y5,y6,y7⟩:=PV.mid (aB.refl ws) hS6 hc6 hj6;simp only[List.getElem_set_self,Nat.zero_add] at y0 y1 y2 y3 y4 y5 y6 y7;clear p4 hc6 oa hj6 HT;go_upto_region 15 with (at_builtin;refine aM rfl _ _ rfl iH (aJ ST2.out.oo (aB.refl _)) rfl 1 _ rfl _ rfl (by decide) rfl (by simp[Value.oneCell']) (by have:=LO.out;omega) ST2.out.gr ⟨Nat.le_refl _,ST2.out.gr.size⟩ ?_;intro v9 w9 hO9 hg9 hgr9 hb9)
        have STF:=Lh (ST2.out.pout (out':=out'++[x.turn]) hgr9 (aO hO9 (by simp) (show PVs out'++_=PVs (out'++[x.turn]) by rw[jS];rfl)) (hb9.elim .inl fun h=>.inr ⟨_,h,Nat.le_succ _⟩) (fun y hy=>by
         rcases List.mem_append.1 hy with h|h
         ·exact ST2.out.vo y h
         ·rw[List.mem_singleton.1 h]
          exact ST2.out.va _ (by rw[List.mem_iff_getElem];exact⟨j,by rw[LS.out];exact hjl,List.getElem_set_self ..⟩)))
        rw[T3.out] at STF;clear hO9 hg9 hgr9 hb9 ST2 y0 y1 y2 y3 y4 y5 y6 y7;go_wp2;go_roundw
        case rel=>exact⟨j+1,out'++[x.turn],by omega,by go_num,OT.out,STF.out⟩
        case measure=>simp[intOf];omega
       ·obtain rfl:j=ad.length:=by omega
        have OE:Hid (out'=out++ad.map PV.turn):=by show _=_;rw[ho'.out,List.take_length]
        have ST:=Lh hst'.out;clear ho' hst'
        have EF:Hid (out'.map PV.q=bO (cR c true ab) (l.map PV.q) (k+1)/\out'.length<=2*(k+1)):=by
         show _/\_;rw[CS.out,<-CT.out.1,OE.out,lD,<-PV.turn_q,<-PV.turn_q,HQ1.out,List.map_append,List.length_append,List.length_map];exact⟨by simp[PV.turn_q],by have:=CT.out.2;have:=AL.out;omega⟩
        have STN:=Lh ST.out.nadd;go_wp2;go_roundw
        case rel=>exact⟨k+1,out',by have:=HLT.out;omega,by go_num,EF.out,STN.out⟩
        case measure=>have:=HLT.out;simp[intOf];omega
     |false=>
      have XNE:Hid ((p.turn).q.x≠(q.turn).q.x):=fun e=>by
       have h1:=HA1.out;have h2:=HA2.out;rw[e,h2] at h1
       cases h1
      have CX:=Lh fun W (h:aB w W) (R:Ending->World->Prop) hR=>iQ (p.turn) (q.turn) c kk _ W ((RP.out.turn).gr h) ((RQ'.out.turn).gr h) HK.out.1 HK.out.2 XNE.out (R:=R) hR
      go_wp2_with (first|(refine wpList_load_row rfl 113 _ rfl b1 rfl 113 _ _ _ FP.out Tryz.underlying113 rfl (by kernel_rfl) ?_)|(refine wpList_load_row rfl 113 _ rfl b2 rfl 113 _ _ _ FQ.out Tryz.underlying113 rfl (by kernel_rfl) ?_))
      refine CX.out _ ST.out.gr _ ?_;intro r wc hgc hrq hrr;have RX:=Lh (hrr.into (T:=eO _ _) fun b hb=>ST.out.off hb)
      have HQ1:Hid (eE c ab (p.turn).q (q.turn).q=([p.turn]++[r]).map PV.q):=by
       show _=_;unfold eE;rw[HA1.out,HA2.out];simp[hrq]
      have lr:r.cells.length=8:=rfl;have ST:=Lh (ST.out.tr hgc);have FP:=Lh (aC hgc FP.out);have FQ:=Lh (aC hgc FQ.out);clear hgc hrq hrr CX XNE HA1 HA2;go_upto_region 13 with (at_builtin;refine aM rfl _ _ rfl iH (aJ ST.out.oa (aB.refl _)) rfl 1 _ rfl _ rfl (by decide) rfl (by simp[PV.cells,Value.oneCell']) (by simp) ST.out.gr ⟨Nat.le_refl _,ST.out.gr.size⟩ ?_;intro v7 wd hO7 hg7 hgr7 hb7)
      simp only[eZ] at hO7
      have ST:=Lh (ST.out.padd (add':=[p.turn]++[r]) hgr7 (aO hO7 (by simp) (by simp[PVs])) (hb7.elim .inl fun h=>.inr ⟨_,h,Nat.le_succ _⟩) (fun x hx=>by
       rcases List.mem_append.1 hx with h|h
       ·exact ST.out.va x h
       ·rw[List.mem_singleton.1 h];exact RX.out))
      clear hO7 hg7 hgr7 hb7 FP FQ RX
      obtain⟨ad,had⟩:∃ ad:List PV,ad=([p.turn]++[r]):=⟨_,rfl⟩
      have AL:Hid (ad.length<=2):=by show _<=_;rw[had];simp
      rw[<-had] at ST HQ1;clear had;obtain⟨aa,ca,hav⟩:=aH ST.out.oa;subst hav;go_wp2
      go_loopw [14,9] (fun i ov wr=>∃ (j:Nat) (out':List PV),j<=ad.length/\i=.int .i64 j/\Hid (out'=out++(ad.take j).map PV.turn)/\Hid (HSt w ov (.slice aa ad.length ca) out' ((ad.take j).map PV.turn++ad.drop j) (6*kk+8) wr)) (fun i _ _=>ad.length-(intOf i).toNat)
      case atStart=>exact⟨0,out,Nat.zero_le _,rfl,Lh (by simp),Lh (by simpa using ST.out)⟩
      case round=>
       obtain⟨j,out',hj,rfl,ho',hst'⟩:=hrel;obtain⟨ax,cx,rfl⟩:=aH hst'.out.oo
       by_cases hjl:j<ad.length
       ·obtain⟨t1,t2,t3⟩:=nJ hjl
        have OT:Hid (out'++[(ad[j]'hjl).turn]=out++(ad.take (j+1)).map PV.turn):=by show _=_;rw[ho'.out,List.take_succ_eq_append_getElem hjl,List.map_append,List.append_assoc];rfl
        have LO:Hid (out'.length<=50000):=by show _<=_;rw[ho'.out,List.length_append,List.length_map,List.length_take];have:=CT.out.2;have:=AL.out;have:=HLT.out;omega
        have ST:=Lh hst'.out;clear hst' ho';generalize hx:ad[j]'hjl=x at*;generalize had':(ad.take j).map PV.turn++ad.drop j=ad' at*;have T3:=Lh t3;have oa:=ST.out.oa;rw[t1] at oa;obtain⟨g,cg,hg⟩:=nT oa (by omega);injection hg with e1 e2 e3
        subst e1 e3;clear e2;have hj':j<ad'.length:=by omega
        have VX:=Lh (ST.out.va x (List.mem_of_getElem? t2));have RA:=Rd.own_lt oa;obtain⟨_,A',c',hv,p1,p2,-,p4⟩:=RA;injection hv with e1 e2 e3
        clear e2;subst e3;unfold maxLen at p2;obtain⟨b5,o5,hA5,hS5,hc5⟩:=p4 (by omega);subst e1;injection hA5 with hA5
        injection hA5 with q1 q2 q3
        subst q1 q2;obtain⟨y0,y1,y2,y3,y4,y5,y6,y7⟩:=PV.mid (aB.refl wr) hS5 hc5 hj';have hx':ad'[j]'hj'=x:=by rw[List.getElem?_eq_getElem hj'] at t2;exact Option.some.inj t2
        rw[hx'] at y0 y1 y2 y3 y4 y5 y6 y7;simp only[Nat.zero_add] at y0 y1 y2 y3 y4 y5 y6 y7;have MX:Hid (x∈ad'):=List.mem_of_getElem? t2;have T1:=Lh t1;clear hx' hc5 p4 t2 t3 oa VX;go_wp2_with fail
        refine kI x _ ?_;intro wt hgt;have ST:=Lh (ST.out.tr hgt);clear hgt y0 y1 y2 y3 y4 y5 y6 y7;have oa:=ST.out.oa;rw[T1.out] at oa
        have HT:Hid (wt.there g (j*8) 8):=fun i hi=>⟨by
         rw[World.ownsRow.cellAt oa (j*8+i) (by omega),List.getElem?_eq_getElem (by rw[lL];omega)]
         rfl,World.ownsRow.frozenAt oa _⟩
        obtain⟨os,gs⟩:=nS oa hj' x.turn;have ls:(ad'.set j x.turn).length=ad.length:=by rw[List.length_set,T1.out]
        have ST2:=Lh (ST.out.padd (add':=ad'.set j x.turn) (by simpa [Value.ownBlock] using gs) (aO os ls.symm rfl) (.inl rfl) (fun y hy=>(List.mem_or_eq_of_mem_set hy).elim (fun h=>ST.out.va y h) (fun h=>by rw[h];exact(ST.out.va x MX.out).turn)));have LS:=Lh ls;clear os gs ls oa ST;go_upto_region 18 with (refine wpList_store_mid rfl 113 _ _ rfl g (j*8) x.turn.cells.toArray rfl rfl HT.out (by kernel_rfl) (PV.one _) ?_)
        rw[show wt.setCells g (j*8) x.turn.cells.toArray.toList=wt.setCells g (j*8) x.turn.cells from rfl];generalize wt.setCells g (j*8) x.turn.cells=ws at*;have oa:=ST2.out.oa;rw[LS.out] at oa;obtain⟨_,A',c',hv,-,-,-,p4⟩:=Rd.own_lt oa;injection hv with e1 e2 e3
        clear e2;subst e3;obtain⟨b5,o5,hA5,hS6,hc6⟩:=p4 (by omega);subst e1;injection hA5 with hA5
        injection hA5 with q1 q2 q3
        subst q1 q2;have hj6:j<(ad'.set j x.turn).length:=by rw[LS.out];exact hjl
        obtain⟨y0,y1,y2,y3,y4,y5,y6,y7⟩:=PV.mid (aB.refl ws) hS6 hc6 hj6;simp only[List.getElem_set_self,Nat.zero_add] at y0 y1 y2 y3 y4 y5 y6 y7;clear p4 hc6 oa hj6 HT;go_upto_region 15 with (at_builtin;refine aM rfl _ _ rfl iH (aJ ST2.out.oo (aB.refl _)) rfl 1 _ rfl _ rfl (by decide) rfl (by simp[Value.oneCell']) (by have:=LO.out;omega) ST2.out.gr ⟨Nat.le_refl _,ST2.out.gr.size⟩ ?_;intro v9 w9 hO9 hg9 hgr9 hb9)
        have STF:=Lh (ST2.out.pout (out':=out'++[x.turn]) hgr9 (aO hO9 (by simp) (show PVs out'++_=PVs (out'++[x.turn]) by rw[jS];rfl)) (hb9.elim .inl fun h=>.inr ⟨_,h,Nat.le_succ _⟩) (fun y hy=>by
         rcases List.mem_append.1 hy with h|h
         ·exact ST2.out.vo y h
         ·rw[List.mem_singleton.1 h]
          exact ST2.out.va _ (by rw[List.mem_iff_getElem];exact⟨j,by rw[LS.out];exact hjl,List.getElem_set_self ..⟩)))
        rw[T3.out] at STF;clear hO9 hg9 hgr9 hb9 ST2 y0 y1 y2 y3 y4 y5 y6 y7;go_wp2;go_roundw
        case rel=>exact⟨j+1,out'++[x.turn],by omega,by go_num,OT.out,STF.out⟩
        case measure=>simp[intOf];omega
       ·obtain rfl:j=ad.length:=by omega
        have OE:Hid (out'=out++ad.map PV.turn):=by show _=_;rw[ho'.out,List.take_length]
        have ST:=Lh hst'.out;clear ho' hst'
        have EF:Hid (out'.map PV.q=bO (cR c true ab) (l.map PV.q) (k+1)/\out'.length<=2*(k+1)):=by
         show _/\_;rw[CS.out,<-CT.out.1,OE.out,lD,<-PV.turn_q,<-PV.turn_q,HQ1.out,List.map_append,List.length_append,List.length_map];exact⟨by simp[PV.turn_q],by have:=CT.out.2;have:=AL.out;omega⟩
        have STN:=Lh ST.out.nadd;go_wp2;go_roundw
        case rel=>exact⟨k+1,out',by have:=HLT.out;omega,by go_num,EF.out,STN.out⟩
        case measure=>have:=HLT.out;simp[intOf];omega
    |false=>
     go_upto_region 11 with fail
     have GN:=Lh ((aB.refl _:aB w6 w6).dr);have ST:=Lh (ST.out.tr GN.out);have FP:=Lh (aC GN.out FP.out);have FQ:=Lh (aC GN.out FQ.out);refine aE (aB (w6).drew) ((aB.refl _)) 7 [0,1,2,4,5,6,3] (by kernel_rfl) (by kernel_rfl) (by intro c a d v w h;cases d<;>exact h) ?_;apply aD;exact rfl;exact rfl;(intro W hW;exact aP 113 _ rfl b1 rfl 113 _ _ _ (aC hW FP.out) rfl Tryz.underlying113 (by kernel_rfl))
     try simp only[Act.put,sA,sZ,sS]
     iterate 2 (apply aD;exact rfl;exact rfl;(intro W hW;(try clear hW);go_simp;with_reducible rfl);try simp only[Act.put,sA,sZ,sS])
     apply aD;exact rfl;exact rfl;(intro W hW;exact aP 113 _ rfl b2 rfl 113 _ _ _ (aC hW FQ.out) rfl Tryz.underlying113 (by kernel_rfl))
     try simp only[Act.put,sA,sZ,sS]
     iterate 2 (apply aD;exact rfl;exact rfl;(intro W hW;(try clear hW);go_simp;with_reducible rfl);try simp only[Act.put,sA,sZ,sS])
     generalize (w6).drew=w8 at*;clear GN;apply aG;exact rfl;exact rfl;exact rfl;intro K hK;go_simp;refine IP.out _ ST.out.gr _ ?_;intro w9 hg9;refine hK.out _ _ hg9 ?_;have ST:=Lh (ST.out.tr hg9);have FP:=Lh (aC hg9 FP.out);have FQ:=Lh (aC hg9 FQ.out);clear hK hg9
     try simp only[Act.put,sA,sZ,sS]
     refine aK ?_;simp only[List.drop_succ_cons,List.drop_zero];go_wp2_with fail
     refine IQ.out _ ST.out.gr _ ?_;intro wa hga;have ST:=Lh (ST.out.tr hga);have FP:=Lh (aC hga FP.out);have FQ:=Lh (aC hga FQ.out);clear hga IP IQ
     cases a2 with
     |false=>
      go_upto_region 13 with fail
      have HQ1:Hid (eE c ab (p.turn).q (q.turn).q=(([]:List PV)).map PV.q):=by
       show _=_;unfold eE;rw[HA1.out,HA2.out];simp
      clear HA1 HA2 FP FQ;have STN:=Lh ST.out.nadd;have GX:Hid (aB w wa):=ST.out.gr
      have EF:Hid (out.map PV.q=bO (cR c true ab) (l.map PV.q) (k+1)/\out.length<=2*(k+1)):=by
       show _/\_;rw[CS.out,<-CT.out.1,lD,<-PV.turn_q,<-PV.turn_q,HQ1.out];exact⟨by simp,by have:=CT.out.2;omega⟩
      clear ST HQ1;go_wp2
      go_loopw [14,9] (fun i ov wr=>i=.int .i64 0/\ov=.slice ao out.length co/\Hid (HSt w (.slice ao out.length co) (.slice none 0 0) out [] (6*kk+8) wr)) (fun _ _ _=>0)
      case atStart=>exact⟨rfl,rfl,STN.out⟩
      case round=>
       obtain⟨rfl,rfl,hst'⟩:=hrel;go_wp2;go_roundw
       case rel=>exact⟨k+1,out,by have:=HLT.out;omega,by go_num,EF.out,hst'.out⟩
       case measure=>have:=HLT.out;simp[intOf];omega
     |true=>
      have XNE:Hid ((p.turn).q.x≠(q.turn).q.x):=fun e=>by
       have h1:=HA1.out;have h2:=HA2.out;rw[e,h2] at h1
       cases h1
      have CX:=Lh fun W (h:aB w W) (R:Ending->World->Prop) hR=>iQ (p.turn) (q.turn) c kk _ W ((RP.out.turn).gr h) ((RQ'.out.turn).gr h) HK.out.1 HK.out.2 XNE.out (R:=R) hR
      go_wp2_with (first|(refine wpList_load_row rfl 113 _ rfl b1 rfl 113 _ _ _ FP.out Tryz.underlying113 rfl (by kernel_rfl) ?_)|(refine wpList_load_row rfl 113 _ rfl b2 rfl 113 _ _ _ FQ.out Tryz.underlying113 rfl (by kernel_rfl) ?_))
      refine CX.out _ ST.out.gr _ ?_;intro r wc hgc hrq hrr;have RX:=Lh (hrr.into (T:=eO _ _) fun b hb=>ST.out.off hb)
      have HQ1:Hid (eE c ab (p.turn).q (q.turn).q=(([]:List PV)++[r]).map PV.q):=by
       show _=_;unfold eE;rw[HA1.out,HA2.out];simp[hrq]
      have lr:r.cells.length=8:=rfl;have ST:=Lh (ST.out.tr hgc);have FP:=Lh (aC hgc FP.out);have FQ:=Lh (aC hgc FQ.out);clear hgc hrq hrr CX XNE HA1 HA2;go_upto_region 13 with (at_builtin;refine aM rfl _ _ rfl iH (aJ ST.out.oa (aB.refl _)) rfl 1 _ rfl _ rfl (by decide) rfl (by simp[PV.cells,Value.oneCell']) (by simp) ST.out.gr ⟨Nat.le_refl _,ST.out.gr.size⟩ ?_;intro v7 wd hO7 hg7 hgr7 hb7)
      simp only[eZ] at hO7
      have ST:=Lh (ST.out.padd (add':=([]:List PV)++[r]) hgr7 (aO hO7 (by simp) (by simp[PVs])) (hb7.elim .inl fun h=>.inr ⟨_,h,Nat.le_succ _⟩) (fun x hx=>by
       rcases List.mem_append.1 hx with h|h
       ·exact ST.out.va x h
       ·rw[List.mem_singleton.1 h];exact RX.out))
      clear hO7 hg7 hgr7 hb7 FP FQ RX
      obtain⟨ad,had⟩:∃ ad:List PV,ad=(([]:List PV)++[r]):=⟨_,rfl⟩
      have AL:Hid (ad.length<=2):=by show _<=_;rw[had];simp
      rw[<-had] at ST HQ1;clear had;obtain⟨aa,ca,hav⟩:=aH ST.out.oa;subst hav;go_wp2
      go_loopw [14,9] (fun i ov wr=>∃ (j:Nat) (out':List PV),j<=ad.length/\i=.int .i64 j/\Hid (out'=out++(ad.take j).map PV.turn)/\Hid (HSt w ov (.slice aa ad.length ca) out' ((ad.take j).map PV.turn++ad.drop j) (6*kk+8) wr)) (fun i _ _=>ad.length-(intOf i).toNat)
      case atStart=>exact⟨0,out,Nat.zero_le _,rfl,Lh (by simp),Lh (by simpa using ST.out)⟩
      case round=>
       obtain⟨j,out',hj,rfl,ho',hst'⟩:=hrel;obtain⟨ax,cx,rfl⟩:=aH hst'.out.oo
       by_cases hjl:j<ad.length
       ·obtain⟨t1,t2,t3⟩:=nJ hjl
        have OT:Hid (out'++[(ad[j]'hjl).turn]=out++(ad.take (j+1)).map PV.turn):=by show _=_;rw[ho'.out,List.take_succ_eq_append_getElem hjl,List.map_append,List.append_assoc];rfl
        have LO:Hid (out'.length<=50000):=by show _<=_;rw[ho'.out,List.length_append,List.length_map,List.length_take];have:=CT.out.2;have:=AL.out;have:=HLT.out;omega
        have ST:=Lh hst'.out;clear hst' ho';generalize hx:ad[j]'hjl=x at*;generalize had':(ad.take j).map PV.turn++ad.drop j=ad' at*;have T3:=Lh t3;have oa:=ST.out.oa;rw[t1] at oa;obtain⟨g,cg,hg⟩:=nT oa (by omega);injection hg with e1 e2 e3
        subst e1 e3;clear e2;have hj':j<ad'.length:=by omega
        have VX:=Lh (ST.out.va x (List.mem_of_getElem? t2));have RA:=Rd.own_lt oa;obtain⟨_,A',c',hv,p1,p2,-,p4⟩:=RA;injection hv with e1 e2 e3
        clear e2;subst e3;unfold maxLen at p2;obtain⟨b5,o5,hA5,hS5,hc5⟩:=p4 (by omega);subst e1;injection hA5 with hA5
        injection hA5 with q1 q2 q3
        subst q1 q2;obtain⟨y0,y1,y2,y3,y4,y5,y6,y7⟩:=PV.mid (aB.refl wr) hS5 hc5 hj';have hx':ad'[j]'hj'=x:=by rw[List.getElem?_eq_getElem hj'] at t2;exact Option.some.inj t2
        rw[hx'] at y0 y1 y2 y3 y4 y5 y6 y7;simp only[Nat.zero_add] at y0 y1 y2 y3 y4 y5 y6 y7;have MX:Hid (x∈ad'):=List.mem_of_getElem? t2;have T1:=Lh t1;clear hx' hc5 p4 t2 t3 oa VX;go_wp2_with fail
        refine kI x _ ?_;intro wt hgt;have ST:=Lh (ST.out.tr hgt);clear hgt y0 y1 y2 y3 y4 y5 y6 y7;have oa:=ST.out.oa;rw[T1.out] at oa
        have HT:Hid (wt.there g (j*8) 8):=fun i hi=>⟨by
         rw[World.ownsRow.cellAt oa (j*8+i) (by omega),List.getElem?_eq_getElem (by rw[lL];omega)]
         rfl,World.ownsRow.frozenAt oa _⟩
        obtain⟨os,gs⟩:=nS oa hj' x.turn;have ls:(ad'.set j x.turn).length=ad.length:=by rw[List.length_set,T1.out]
        have ST2:=Lh (ST.out.padd (add':=ad'.set j x.turn) (by simpa [Value.ownBlock] using gs) (aO os ls.symm rfl) (.inl rfl) (fun y hy=>(List.mem_or_eq_of_mem_set hy).elim (fun h=>ST.out.va y h) (fun h=>by rw[h];exact(ST.out.va x MX.out).turn)));have LS:=Lh ls;clear os gs ls oa ST;go_upto_region 18 with (refine wpList_store_mid rfl 113 _ _ rfl g (j*8) x.turn.cells.toArray rfl rfl HT.out (by kernel_rfl) (PV.one _) ?_)
        rw[show wt.setCells g (j*8) x.turn.cells.toArray.toList=wt.setCells g (j*8) x.turn.cells from rfl];generalize wt.setCells g (j*8) x.turn.cells=ws at*;have oa:=ST2.out.oa;rw[LS.out] at oa;obtain⟨_,A',c',hv,-,-,-,p4⟩:=Rd.own_lt oa;injection hv with e1 e2 e3
        clear e2;subst e3;obtain⟨b5,o5,hA5,hS6,hc6⟩:=p4 (by omega);subst e1;injection hA5 with hA5
        injection hA5 with q1 q2 q3
        subst q1 q2;have hj6:j<(ad'.set j x.turn).length:=by rw[LS.out];exact hjl
        obtain⟨y0,y1,y2,y3,y4,y5,y6,y7⟩:=PV.mid (aB.refl ws) hS6 hc6 hj6;simp only[List.getElem_set_self,Nat.zero_add] at y0 y1 y2 y3 y4 y5 y6 y7;clear p4 hc6 oa hj6 HT;go_upto_region 15 with (at_builtin;refine aM rfl _ _ rfl iH (aJ ST2.out.oo (aB.refl _)) rfl 1 _ rfl _ rfl (by decide) rfl (by simp[Value.oneCell']) (by have:=LO.out;omega) ST2.out.gr ⟨Nat.le_refl _,ST2.out.gr.size⟩ ?_;intro v9 w9 hO9 hg9 hgr9 hb9)
        have STF:=Lh (ST2.out.pout (out':=out'++[x.turn]) hgr9 (aO hO9 (by simp) (show PVs out'++_=PVs (out'++[x.turn]) by rw[jS];rfl)) (hb9.elim .inl fun h=>.inr ⟨_,h,Nat.le_succ _⟩) (fun y hy=>by
         rcases List.mem_append.1 hy with h|h
         ·exact ST2.out.vo y h
         ·rw[List.mem_singleton.1 h]
          exact ST2.out.va _ (by rw[List.mem_iff_getElem];exact⟨j,by rw[LS.out];exact hjl,List.getElem_set_self ..⟩)))
        rw[T3.out] at STF;clear hO9 hg9 hgr9 hb9 ST2 y0 y1 y2 y3 y4 y5 y6 y7;go_wp2;go_roundw
        case rel=>exact⟨j+1,out'++[x.turn],by omega,by go_num,OT.out,STF.out⟩
        case measure=>simp[intOf];omega
       ·obtain rfl:j=ad.length:=by omega
        have OE:Hid (out'=out++ad.map PV.turn):=by show _=_;rw[ho'.out,List.take_length]
        have ST:=Lh hst'.out;clear ho' hst'
        have EF:Hid (out'.map PV.q=bO (cR c true ab) (l.map PV.q) (k+1)/\out'.length<=2*(k+1)):=by
         show _/\_;rw[CS.out,<-CT.out.1,OE.out,lD,<-PV.turn_q,<-PV.turn_q,HQ1.out,List.map_append,List.length_append,List.length_map];exact⟨by simp[PV.turn_q],by have:=CT.out.2;have:=AL.out;omega⟩
        have STN:=Lh ST.out.nadd;go_wp2;go_roundw
        case rel=>exact⟨k+1,out',by have:=HLT.out;omega,by go_num,EF.out,STN.out⟩
        case measure=>have:=HLT.out;simp[intOf];omega
  ·obtain rfl:k=l.length:=by omega
   have ST:=Lh hst.out;have EV:Hid (out.map PV.q=dX c up ab (l.map PV.q)):=by show _=_;unfold dX;rw[List.length_map];exact hct.out.1
   clear hst hct k4;go_wp2;exact HR.out _ out _ ST.out.oo EV.out (fun p hp=>(ST.out.vo p hp).into fun _ _=>trivial) ST.out.gr
theorem fX (c:Int)(up ab:Bool)(l:List PtQ):(dX c up ab l).length<=2*l.length:=by
 have key:∀ k,(bO (cR c up ab) l k).length<=2*k:=by
  intro k
  induction k with
  |zero=>simp[bO]
  |succ k ih=>
   unfold bO at ih ⊢;rw[List.range_succ,List.flatMap_append,List.length_append]
   have h2:([k].flatMap (jH (cR c up ab) l)).length<=2:=by
    simp only[List.flatMap_cons,List.flatMap_nil,List.append_nil];unfold jH
    split
    ·exact half1Q_len _ _ _ _ _
    ·simp
   omega
 exact key _
def dO (l:List Pt)(lo hi:Int):List PtQ:=dX hi true false (dX lo true true (dX hi false false (dX lo false true (l.map Pt.pq))))
set_option maxHeartbeats 8000000 in
theorem vZ (l:List Pt)(lo hi:Int)(v:Value)(S:Nat->Prop)(w:World)(hb:Rd w S 2 v l.length (Pts l))(hl:l.length<=400)(hok:∀ p∈l,p.ok)(hlo:I64 lo)(hhi:I64 hi){R:Ending->World->Prop}
  (hR:∀ (r:Value) (m:List PV) (w':World),w'.ownsRow w.heap.size 113 8 r m.length (PVs m)->m.map PV.q=dO l lo hi->(∀ p∈m,p.rd w' (fun _=>True) 7256)->aB w w'->R (.returned r) w'):
  Calls Tryz.prog 67 #[v,.int .i64 lo,.int .i64 hi] w R:=by
 have HR:=Lh hR;clear hR;have hb:=hb.lt (by decide);obtain⟨_,A,c,rfl,k1,k2,k3,k4⟩:=hb;unfold maxLen at k2;have HOK:=Lh hok;have HI:=Lh (And.intro hlo hhi);clear hok hlo hhi k3;go_enter Tryz.func67,Tryz.ntmps67
 go_wp2
 go_loopw [8,7] (fun i p wr=>∃ (k:Nat) (m:List PV),k<=l.length/\i=.int .i64 k/\Hid (m.map PV.q=(l.take k).map Pt.pq)/\Hid (HSt w p (.slice none 0 0) m [] 4 wr)) (fun i _ _=>l.length-(intOf i).toNat)
 case atStart=>exact⟨0,[],Nat.zero_le _,rfl,rfl,⟨aB.refl _,World.ownsRow_nil _ _ _ _,World.ownsRow_nil _ _ _ _,fun k hk=>by simp[Value.ownBlock] at hk,fun p hp=>by simp at hp,fun p hp=>by simp at hp⟩⟩
 case round=>
  obtain⟨k,m,hk,rfl,hm,hst⟩:=hrel;obtain⟨ap,cp,rfl⟩:=aH hst.out.oo
  by_cases hlt:k<l.length
  ·obtain⟨bl,o,rfl,hS,hc⟩:=k4 (by omega)
   have e0:=aL Pt.cells_len hst.out.gr hS hc hlt;have ML:Hid (m.length<=400):=by show _<=_;have:=congrArg List.length hm.out;rw[List.length_map,List.length_map,List.length_take] at this;omega
   have MS:Hid (∀ r:PV,r.q=(l[k]'hlt).pq->(m++[r]).map PV.q=(l.take (k+1)).map Pt.pq):=fun r hr=>by rw[List.map_append,hm.out,List.take_succ_eq_append_getElem hlt,List.map_append,List.map_cons,List.map_nil,hr];rfl
   have PO:=HOK.out _ (List.getElem_mem hlt);have AT:=Lh fun W (R:Ending->World->Prop) hR=>xQ (l[k]'hlt) W PO (R:=R) hR
   have x0:=e0 0 _ rfl;have x1:=e0 1 _ rfl;simp only[Nat.add_zero] at x0;have ST:=Lh hst.out;clear e0 hc k4 PO hm hst;generalize (l[k]'hlt)=p at*;unfold Pt.cells at AT;go_wp2_with fail
   refine AT.out _ _ ?_;intro r w1 hg1 hq hr;have lr:r.cells.length=8:=rfl;have RX:=Lh (hr.into (T:=eO _ _) fun b hb=>ST.out.off hb);have ST:=Lh (ST.out.tr hg1);have MQ:=Lh (MS.out r hq);clear hg1 hq hr x0 x1 AT MS;go_upto_region 4 with (at_builtin;refine aM rfl _ _ rfl iH (aJ ST.out.oo (aB.refl _)) rfl 1 _ rfl _ rfl (by decide) rfl (by simp[PV.cells,Value.oneCell']) (by have:=ML.out;omega) ST.out.gr ⟨Nat.le_refl _,ST.out.gr.size⟩ ?_;intro v9 w9 hO9 hg9 hgr9 hb9)
   simp only[eZ] at hO9
   have STF:=Lh (ST.out.pout (out':=m++[r]) hgr9 (aO hO9 (by simp) (by simp[PVs])) (hb9.elim .inl fun h=>.inr ⟨_,h,Nat.le_succ _⟩) (fun y hy=>by
    rcases List.mem_append.1 hy with h|h
    ·exact ST.out.vo y h
    ·rw[List.mem_singleton.1 h];exact RX.out))
   clear hO9 hg9 hgr9 hb9 ST RX;go_wp2;go_roundw
   case rel=>exact⟨k+1,m++[r],by omega,by go_num,MQ.out,STF.out⟩
   case measure=>simp[intOf];omega
  ·obtain rfl:k=l.length:=by omega
   have M0:Hid (m.map PV.q=l.map Pt.pq):=by show _=_;rw[hm.out,List.take_length]
   have L0:Hid (m.length<=400):=by show _<=_;have:=congrArg List.length M0.out;rw[List.length_map,List.length_map] at this;omega
   have ST:=Lh hst.out;clear hm hst k4;go_wp2_with fail
   refine mX m lo false true 4 _ _ _ _ (Rd.own ST.out.oo) (by have:=L0.out;omega) ST.out.vo (by omega) HI.out.1 ?_;intro r1 m1 w1 hO1 hq1 hv1 hg1;have L1:Hid (m1.length<=800):=by show _<=_;have:=congrArg List.length hq1;have:=fX lo false true (m.map PV.q);have:=L0.out;simp only[List.length_map] at*;omega
   have G1:=Lh (ST.out.gr.tr hg1);have O1:=Lh hO1;have Q1:=Lh hq1;have V1:=Lh hv1;clear hO1 hq1 hv1 hg1 ST;go_wp2_with fail
   refine mX m1 hi false false 32 _ _ _ _ (Rd.own O1.out) (by have:=L1.out;omega) V1.out (by omega) HI.out.2 ?_;intro r2 m2 w2 hO2 hq2 hv2 hg2;have L2:Hid (m2.length<=1600):=by show _<=_;have:=congrArg List.length hq2;have:=fX hi false false (m1.map PV.q);have:=L1.out;simp only[List.length_map] at*;omega
   have G2:=Lh (G1.out.tr hg2);have O2:=Lh hO2;have Q2:=Lh hq2;have V2:=Lh hv2;clear hO2 hq2 hv2 hg2 O1 V1;go_wp2_with fail
   refine mX m2 lo true true 200 _ _ _ _ (Rd.own O2.out) (by have:=L2.out;omega) V2.out (by omega) HI.out.1 ?_;intro r3 m3 w3 hO3 hq3 hv3 hg3;have L3:Hid (m3.length<=3200):=by show _<=_;have:=congrArg List.length hq3;have:=fX lo true true (m2.map PV.q);have:=L2.out;simp only[List.length_map] at*;omega
   have G3:=Lh (G2.out.tr hg3);have O3:=Lh hO3;have Q3:=Lh hq3;have V3:=Lh hv3;clear hO3 hq3 hv3 hg3 O2 V2;go_wp2_with fail
   refine mX m3 hi true false 1208 _ _ _ _ (Rd.own O3.out) (by have:=L3.out;omega) V3.out (by omega) HI.out.2 ?_;intro r4 m4 w4 hO4 hq4 hv4 hg4;have G4:=Lh (G3.out.tr hg4);have O4:=Lh (fP hO4 G3.out.size);have Q4:Hid (m4.map PV.q=dO l lo hi):=by show _=_;unfold dO;rw[hq4,Q3.out,Q2.out,Q1.out,M0.out]
   have V4:=Lh hv4;clear hO4 hq4 hv4 hg4;go_wp2;exact HR.out _ m4 _ O4.out Q4.out V4.out G4.out
end Go.Proofs.YtjalimkajcjapaaGreatDoor
