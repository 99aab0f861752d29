import Derived.Test.YtjalimkajcjapaaGreatDoorSlb
import Derived.Laws.OwnMore
namespace Go.Proofs.YtjalimkajcjapaaGreatDoor
set_option maxRecDepth 100000
open Go.RowKit Go.Lib B
theorem segBad_or (p q:Pt)(lo hi:Int):bY p q lo hi=(decide (hi<lo)||(p.far||(q.far||(!inw lo||!inw hi)))):=by
 unfold bY Pt.far;simp only[List.any_cons,List.any_nil,Bool.or_false,Bool.or_assoc]
set_option maxHeartbeats 16000000 in
theorem segment_q (p q:Pt)(lo hi:Int)(w:World)(hp:p.ok)(hq:q.ok)(hlo:I64 lo)(hhi:I64 hi){R:Ending->World->Prop}
  (hR:∀ (a b:PV) ok w',aB w w'->(bZ p q lo hi).2.2=ok->(ok=true->a.q=(bZ p q lo hi).1/\b.q=(bZ p q lo hi).2.1/\a.rd w' (fun x=>w.heap.size<=x) 15/\b.rd w' (fun x=>w.heap.size<=x) 15)->R (.returned (.tuple #[.agg a.cells.toArray,.agg b.cells.toArray,.bool ok])) w'):
  Calls Tryz.prog 62 #[.agg p.cells.toArray,.agg q.cells.toArray,.int .i64 lo,.int .i64 hi] w R:=by
 have HR:=Lh hR;clear hR;have HS:Hid (bY p q lo hi=(decide (hi<lo)||(p.far||(q.far||(!inw lo||!inw hi))))):=segBad_or p q lo hi;have FPF:=Lh fun W (R:Ending->World->Prop) hR=>wE p W (R:=R) hR
 have FQF:=Lh fun W (R:Ending->World->Prop) hR=>wE q W (R:=R) hR
 have FLF:=Lh fun W (R:Ending->World->Prop) hR=>pC lo W (R:=R) hR
 have FHF:=Lh fun W (R:Ending->World->Prop) hR=>pC hi W (R:=R) hR
 obtain⟨b0,hb0⟩:∃ b,decide (hi<lo)=b:=⟨_,rfl⟩
 obtain⟨b1,hb1⟩:∃ b,p.far=b:=⟨_,rfl⟩
 obtain⟨b2,hb2⟩:∃ b,q.far=b:=⟨_,rfl⟩
 obtain⟨b3,hb3⟩:∃ b,(!inw lo)=b:=⟨_,rfl⟩
 obtain⟨b4,hb4⟩:∃ b,(!inw hi)=b:=⟨_,rfl⟩
 rw[hb0,hb1,hb2,hb3,hb4] at HS;rw[hb1] at FPF;rw[hb2] at FQF;rw[hb3] at FLF;rw[hb4] at FHF;clear hb1 hb2 hb3 hb4;obtain⟨px,py⟩:=p;obtain⟨qx,qy⟩:=q
 have HP:Hid (I64 px/\I64 py/\I64 qx/\I64 qy/\I64 lo/\I64 hi):=⟨hp.1,hp.2,hq.1,hq.2,hlo,hhi⟩
 have HPO:=Lh (And.intro hp hq);clear hp hq hlo hhi;unfold Pt.cells at*;dsimp only at FPF FQF ⊢
 obtain⟨wa,hwa⟩:∃ wa,wa=(((w.alloc (.cells #[.int .i64 px,.int .i64 py] 51)).alloc (.cells #[.int .i64 qx,.int .i64 qy] 51)).alloc (.cells aU.cells.toArray 113)).alloc (.cells aU.cells.toArray 113):=⟨_,rfl⟩
 have GA:Hid (aB w wa):=by subst hwa;exact((((aB.refl w).al _).al _).al _).al _
 have FP:Hid (wa.heap[w.heap.size]? =some (.cells #[.int .i64 px,.int .i64 py] 51 (0,0))):=by
  subst hwa;exact aR w _ _ ((((aB.refl _).al _).al _).al _)
 have FQ:Hid (wa.heap[w.heap.size+1]? =some (.cells #[.int .i64 qx,.int .i64 qy] 51 (0,0))):=by
  subst hwa;have:=aR (w.alloc (.cells #[.int .i64 px,.int .i64 py] 51)) #[.int .i64 qx,.int .i64 qy] 51 (((aB.refl _).al (.cells aU.cells.toArray 113)).al (.cells aU.cells.toArray 113))
  rwa[World.size_alloc] at this
 have F0:Hid (wa.heap[w.heap.size+1+1]? =some (.cells aU.cells.toArray 113 (0,0))):=by
  subst hwa;have:=aR ((w.alloc (.cells #[.int .i64 px,.int .i64 py] 51)).alloc (.cells #[.int .i64 qx,.int .i64 qy] 51)) aU.cells.toArray 113 ((aB.refl _).al (.cells aU.cells.toArray 113))
  rwa[World.size_alloc,World.size_alloc] at this
 have F1:Hid (wa.heap[w.heap.size+1+1+1]? =some (.cells aU.cells.toArray 113 (0,0))):=by
  subst hwa;have:=aR (((w.alloc (.cells #[.int .i64 px,.int .i64 py] 51)).alloc (.cells #[.int .i64 qx,.int .i64 qy] 51)).alloc (.cells aU.cells.toArray 113)) aU.cells.toArray 113 (aB.refl _)
  rwa[World.size_alloc,World.size_alloc,World.size_alloc] at this
 have SZ:Hid (wa.heap.size=w.heap.size+4):=by
  subst hwa;show _=_;simp only[World.size_alloc]
 obtain⟨bp,hbp⟩:∃ x,x=w.heap.size:=⟨_,rfl⟩
 obtain⟨bq,hbq⟩:∃ x,x=w.heap.size+1:=⟨_,rfl⟩
 obtain⟨r0,hr0⟩:∃ x,x=w.heap.size+1+1:=⟨_,rfl⟩
 obtain⟨r1,hr1⟩:∃ x,x=w.heap.size+1+1+1:=⟨_,rfl⟩
 have NN:Hid (r0≠r1/\r1≠r0):=⟨by omega,by omega⟩
 have LE:Hid (w.heap.size<=r0/\w.heap.size<=r1):=⟨by omega,by omega⟩
 rw[<-hbp] at FP;rw[<-hbq] at FQ;rw[<-hr0] at F0;rw[<-hr1] at F1;have z0:=cell_of_row _ bp 0 _ _ (0,0) FP.out;have z1:=cell_of_row _ bp 1 _ _ (0,0) FP.out
 cases b0 with
 |true=>
  have HV:Hid ((bZ ⟨px,py⟩ ⟨qx,qy⟩ lo hi).2.2=false):=by
   show _=_;have h:=HS.out;have hb:bY ⟨px,py⟩ ⟨qx,qy⟩ lo hi=true:=by rw[h];rfl
   unfold bZ;rw[if_pos hb]
  go_enter Tryz.func62,Tryz.ntmps62
  go_wp2_with fail
  rw[show (((w.alloc (.cells #[.int .i64 px,.int .i64 py] 51)).alloc (.cells #[.int .i64 qx,.int .i64 qy] 51)).alloc (.cells #[.bool false,.slice none 0 0,.bool false,.slice none 0 0,.bool false,.slice none 0 0,.bool false,.slice none 0 0] 113)).alloc (.cells #[.bool false,.slice none 0 0,.bool false,.slice none 0 0,.bool false,.slice none 0 0,.bool false,.slice none 0 0] 113)=wa from hwa.symm];clear hwa;rw[<-hr1,<-hr0,<-hbq,<-hbp];clear hr0 hr1 hbq hbp;refine bodyPost_ret (v:=.tuple #[.agg aU.cells.toArray,.agg aU.cells.toArray,.bool false]) ?_ rfl ?_
  ·exact cJ rfl _ _ r0 r1 _ _ _ _ _ _ _ _ rfl F0.out rfl F1.out rfl rfl rfl Tryz.underlying113 (by kernel_rfl) Tryz.underlying113 (by kernel_rfl)
  ·exact HR.out aU aU false _ GA.out HV.out (fun h=>by cases h)
 |false=>
  go_enter Tryz.func62,Tryz.ntmps62
  go_wp2_with fail
  rw[show (((w.alloc (.cells #[.int .i64 px,.int .i64 py] 51)).alloc (.cells #[.int .i64 qx,.int .i64 qy] 51)).alloc (.cells #[.bool false,.slice none 0 0,.bool false,.slice none 0 0,.bool false,.slice none 0 0,.bool false,.slice none 0 0] 113)).alloc (.cells #[.bool false,.slice none 0 0,.bool false,.slice none 0 0,.bool false,.slice none 0 0,.bool false,.slice none 0 0] 113)=wa from hwa.symm];clear hwa;rw[<-hr1,<-hr0,<-hbq,<-hbp];clear hr0 hr1 hbq hbp;go_wp2_with fail
  go_at_call 88;refine FPF.out _ _ ?_;intro w1 hg1;have FP:=Lh (aC hg1 FP.out);have FQ:=Lh (aC hg1 FQ.out);have F0:=Lh (aC hg1 F0.out);have F1:=Lh (aC hg1 F1.out);have GW:=Lh (GA.out.tr hg1);clear hg1 z0 z1 GA FPF SZ
  cases b1 with
  |true=>
   have HV:Hid ((bZ ⟨px,py⟩ ⟨qx,qy⟩ lo hi).2.2=false):=by
    show _=_;have h:=HS.out;have hb:bY ⟨px,py⟩ ⟨qx,qy⟩ lo hi=true:=by rw[h];rfl
    unfold bZ;rw[if_pos hb]
   have H1:=Lh ((setRow_other w1 r0 r1 aU.cells.toArray NN.out.2).trans F1.out);go_wp2_with (first|(refine wpList_store_row rfl 113 _ _ rfl r0 aU.cells.toArray rfl rfl 113 _ F0.out (by kernel_rfl) rfl (PV.one _) ?_)|(refine wpList_store_row rfl 113 _ _ rfl r1 aU.cells.toArray rfl rfl 113 _ H1.out (by kernel_rfl) rfl (PV.one _) ?_))
   refine bodyPost_ret (v:=.tuple #[.agg aU.cells.toArray,.agg aU.cells.toArray,.bool false]) ?_ rfl ?_
   ·exact cJ rfl _ _ r0 r1 _ _ _ _ _ _ _ _ rfl ((setRow_other _ r1 r0 _ NN.out.1).trans (setRow_heap _ r0 _ _ _ _ F0.out)) rfl (setRow_heap _ r1 _ _ _ _ H1.out) rfl rfl rfl Tryz.underlying113 (by kernel_rfl) Tryz.underlying113 (by kernel_rfl)
   ·exact HR.out aU aU false _ ((GW.out.row LE.out.1 _).row LE.out.2 _) HV.out (fun h=>by cases h)
  |false=>
   have z0:=cell_of_row _ bq 0 _ _ (0,0) FQ.out;have z1:=cell_of_row _ bq 1 _ _ (0,0) FQ.out;go_wp2_with fail
   go_at_call 88;refine FQF.out _ _ ?_;intro w2 hg2;have FP:=Lh (aC hg2 FP.out);have FQ:=Lh (aC hg2 FQ.out);have F0:=Lh (aC hg2 F0.out);have F1:=Lh (aC hg2 F1.out);have GW:=Lh (GW.out.tr hg2);clear hg2 z0 z1 FQF
   cases b2 with
   |true=>
    have HV:Hid ((bZ ⟨px,py⟩ ⟨qx,qy⟩ lo hi).2.2=false):=by
     show _=_;have h:=HS.out;have hb:bY ⟨px,py⟩ ⟨qx,qy⟩ lo hi=true:=by rw[h];rfl
     unfold bZ;rw[if_pos hb]
    have H1:=Lh ((setRow_other w2 r0 r1 aU.cells.toArray NN.out.2).trans F1.out);go_wp2_with (first|(refine wpList_store_row rfl 113 _ _ rfl r0 aU.cells.toArray rfl rfl 113 _ F0.out (by kernel_rfl) rfl (PV.one _) ?_)|(refine wpList_store_row rfl 113 _ _ rfl r1 aU.cells.toArray rfl rfl 113 _ H1.out (by kernel_rfl) rfl (PV.one _) ?_))
    refine bodyPost_ret (v:=.tuple #[.agg aU.cells.toArray,.agg aU.cells.toArray,.bool false]) ?_ rfl ?_
    ·exact cJ rfl _ _ r0 r1 _ _ _ _ _ _ _ _ rfl ((setRow_other _ r1 r0 _ NN.out.1).trans (setRow_heap _ r0 _ _ _ _ F0.out)) rfl (setRow_heap _ r1 _ _ _ _ H1.out) rfl rfl rfl Tryz.underlying113 (by kernel_rfl) Tryz.underlying113 (by kernel_rfl)
    ·exact HR.out aU aU false _ ((GW.out.row LE.out.1 _).row LE.out.2 _) HV.out (fun h=>by cases h)
   |false=>
    go_wp2_with fail
    go_at_call 89;refine FLF.out _ _ ?_;clear FLF
    cases b3 with
    |true=>
     have HV:Hid ((bZ ⟨px,py⟩ ⟨qx,qy⟩ lo hi).2.2=false):=by
      show _=_;have h:=HS.out;have hb:bY ⟨px,py⟩ ⟨qx,qy⟩ lo hi=true:=by rw[h];rfl
      unfold bZ;rw[if_pos hb]
     have H1:=Lh ((setRow_other w2 r0 r1 aU.cells.toArray NN.out.2).trans F1.out);go_wp2_with (first|(refine wpList_store_row rfl 113 _ _ rfl r0 aU.cells.toArray rfl rfl 113 _ F0.out (by kernel_rfl) rfl (PV.one _) ?_)|(refine wpList_store_row rfl 113 _ _ rfl r1 aU.cells.toArray rfl rfl 113 _ H1.out (by kernel_rfl) rfl (PV.one _) ?_))
     refine bodyPost_ret (v:=.tuple #[.agg aU.cells.toArray,.agg aU.cells.toArray,.bool false]) ?_ rfl ?_
     ·exact cJ rfl _ _ r0 r1 _ _ _ _ _ _ _ _ rfl ((setRow_other _ r1 r0 _ NN.out.1).trans (setRow_heap _ r0 _ _ _ _ F0.out)) rfl (setRow_heap _ r1 _ _ _ _ H1.out) rfl rfl rfl Tryz.underlying113 (by kernel_rfl) Tryz.underlying113 (by kernel_rfl)
     ·exact HR.out aU aU false _ ((GW.out.row LE.out.1 _).row LE.out.2 _) HV.out (fun h=>by cases h)
    |false=>
     go_wp2_with fail
     go_at_call 89;refine FHF.out _ _ ?_;clear FHF
     cases b4 with
     |true=>
      have HV:Hid ((bZ ⟨px,py⟩ ⟨qx,qy⟩ lo hi).2.2=false):=by
       show _=_;have h:=HS.out;have hb:bY ⟨px,py⟩ ⟨qx,qy⟩ lo hi=true:=by rw[h];rfl
       unfold bZ;rw[if_pos hb]
      have H1:=Lh ((setRow_other w2 r0 r1 aU.cells.toArray NN.out.2).trans F1.out);go_wp2_with (first|(refine wpList_store_row rfl 113 _ _ rfl r0 aU.cells.toArray rfl rfl 113 _ F0.out (by kernel_rfl) rfl (PV.one _) ?_)|(refine wpList_store_row rfl 113 _ _ rfl r1 aU.cells.toArray rfl rfl 113 _ H1.out (by kernel_rfl) rfl (PV.one _) ?_))
      refine bodyPost_ret (v:=.tuple #[.agg aU.cells.toArray,.agg aU.cells.toArray,.bool false]) ?_ rfl ?_
      ·exact cJ rfl _ _ r0 r1 _ _ _ _ _ _ _ _ rfl ((setRow_other _ r1 r0 _ NN.out.1).trans (setRow_heap _ r0 _ _ _ _ F0.out)) rfl (setRow_heap _ r1 _ _ _ _ H1.out) rfl rfl rfl Tryz.underlying113 (by kernel_rfl) Tryz.underlying113 (by kernel_rfl)
      ·exact HR.out aU aU false _ ((GW.out.row LE.out.1 _).row LE.out.2 _) HV.out (fun h=>by cases h)
     |false=>
      have NB:Hid (bY ⟨px,py⟩ ⟨qx,qy⟩ lo hi=false):=by
       show _=_;rw[HS.out];rfl
      clear HS hb0;go_wp2_with fail
      have GW0:=Lh (GW.out.dr);have G0:=Lh ((aB.refl w2).dr);have FP:=Lh (aC G0.out FP.out);have FQ:=Lh (aC G0.out FQ.out);have F0:=Lh (aC G0.out F0.out);have F1:=Lh (aC G0.out F1.out);clear G0
      refine dW ⟨13,some 11,111,bV.cells.toArray⟩ ⟨14,some 12,111,bV.cells.toArray⟩ 17 [2,3,4,5,6,7,0,1,8,9,10,11,12] [15,16] (by kernel_rfl) (by kernel_rfl) (by decide) ⟨_,rfl,rfl,rfl,fun a W K h=>by go_simp;exact h⟩ ⟨_,rfl,rfl,rfl,fun a W K h=>by go_simp;exact h⟩ (by intro c a d v w h;cases d<;>exact h) undef undef rfl rfl ?_;generalize w2.drew=wb at*;have LEB:Hid (w.heap.size<=wb.heap.size):=GW0.out.size
      iterate 6
       apply bX;exact rfl;(simp);(simp);(intro x1 x2;exact rfl)
       ·intro x1 x2 W' hW
        have fp:=aC hW FP.out;have fq:=aC hW FQ.out;have z0:=cell_of_row _ _ 0 _ _ (0,0) fp;have z1:=cell_of_row _ _ 1 _ _ (0,0) fp;have y0:=cell_of_row _ _ 0 _ _ (0,0) fq;have y1:=cell_of_row _ _ 1 _ _ (0,0) fq;clear hW fp fq;simp only[FA.put2,Act.put,sA,sZ,sS]
        go_simp
        with_reducible rfl
       simp only[Act.put,sA,sZ,sS]
      apply dS;exact rfl;exact rfl;(simp);(simp);(intro x1 x2;exact rfl);intro x1 x2 W5 hW hJ K hK;simp only[FA.put2,Act.put,sA,sZ,sS]
      go_simp
      go_at_call 87;refine gU 0 _ ⟨by decide,by decide⟩ ?_;intro ra w3 hg3 hqa hra;have RA:=Lh ((hra.into (T:=fun b=>w.heap.size<=b) fun b hb=>by have:=LEB.out;have:=hW.size;omega).up (k':=5) (by omega));have QA:=Lh hqa;refine hK.out _ _ (fun W=>aB w3 W) hg3 (fun _ _ g h=>h.tr g) (aB.refl _) ?_;clear hK hW hg3 hqa hra hJ;simp only[Act.put,sA,sZ,sS];apply dS;exact rfl;exact rfl;(simp);(simp);(intro x1 x2;exact rfl);intro x1 x2 W5 hW hJ K hK
      simp only[FA.put2,Act.put,sA,sZ,sS]
      go_simp
      go_at_call 87;refine gU 1 _ ⟨by decide,by decide⟩ ?_;intro rb w4 hg4 hqb hrb;have RA:=Lh (RA.out.gr (hJ.tr hg4));have RB:=Lh ((hrb.into (T:=fun b=>w.heap.size<=b) fun b hb=>by have:=LEB.out;have:=hW.size;omega).up (k':=5) (by omega));have QB:=Lh hqb;refine hK.out _ _ (fun W=>aB w4 W) hg4 (fun _ _ g h=>h.tr g) (aB.refl _) ?_;clear hK hW hg4 hqb hrb hJ;simp only[Act.put,sA,sZ,sS];apply dS;exact rfl;exact rfl;(simp);(simp);(intro x1 x2;exact rfl)
      intro x1 x2 W5 hW hJ K hK;simp only[FA.put2,Act.put,sA,sZ,sS]
      go_simp
      go_at_call 90;refine slab_q ra rb px qx lo hi 5 (fun b=>w.heap.size<=b) _ (RA.out.gr hJ) (RB.out.gr hJ) (by omega) (by omega) HP.out.1 HP.out.2.2.1 HP.out.2.2.2.2.1 HP.out.2.2.2.2.2 ?_;intro rc rd ok1 w5 hg5 hs hrc hrd;have RC:=Lh (hrc.into (T:=fun b=>w.heap.size<=b) fun b hb=>by have:=LEB.out;have:=hW.size;rcases hb with h|h<;>omega);have RD:=Lh (hrd.into (T:=fun b=>w.heap.size<=b) fun b hb=>by have:=LEB.out;have:=hW.size;rcases hb with h|h<;>omega)
      have QS:Hid (bN 0 1 px qx lo hi=(rc.q,rd.q,ok1)):=by
       show _=_;have h:=hs;rw[QA.out,QB.out] at h;exact h
      refine hK.out _ _ (fun W=>aB w5 W) hg5 (fun _ _ g h=>h.tr g) (aB.refl _) ?_;clear hK hW hg5 hs hrc hrd hJ RA RB QA QB;simp only[Act.put,sA,sZ,sS]
      iterate 4
       apply bX;exact rfl;(simp);(simp);(intro x1 x2;exact rfl)
       ·intro x1 x2 W' hW
        have fp:=aC hW FP.out;have fq:=aC hW FQ.out;have z0:=cell_of_row _ _ 0 _ _ (0,0) fp;have z1:=cell_of_row _ _ 1 _ _ (0,0) fp;have y0:=cell_of_row _ _ 0 _ _ (0,0) fq;have y1:=cell_of_row _ _ 1 _ _ (0,0) fq;clear hW fp fq;simp only[FA.put2,Act.put,sA,sZ,sS]
        go_simp
        with_reducible rfl
       simp only[Act.put,sA,sZ,sS]
      refine mY ?_;intro c1 c2 V hV hJ hne hc1 hc2;have RC:=Lh (RC.out.gr hJ);have RD:=Lh (RD.out.gr hJ);have FC1:Hid (V.heap[c1]? =some (.cells bV.cells.toArray 111 (0,0))):=hc1.2;have FC2:Hid (V.heap[c2]? =some (.cells bV.cells.toArray 111 (0,0))):=hc2.2
      have N1:eI V c1:=⟨_,_,_,FC1.out,RV.noint _⟩
      have N2:eI V c2:=⟨_,_,_,FC2.out,RV.noint _⟩
      have NE:Hid (c1≠c2/\c2≠c1):=⟨hne,fun e=>hne e.symm⟩
      have LC:Hid (w.heap.size<=c1/\w.heap.size<=c2):=⟨Nat.le_trans LEB.out hc1.1,Nat.le_trans LEB.out hc2.1⟩
      have L1:wb.heap.size<=c1:=hc1.1;have L2:wb.heap.size<=c2:=hc2.1;have B0:=lt_of_block F0.out;have B1:=lt_of_block F1.out;have B2:=lt_of_block FP.out;have B3:=lt_of_block FQ.out
      have CR:Hid (r0≠c1/\r0≠c2/\r1≠c1/\r1≠c2/\bp≠c1/\bp≠c2/\bq≠c1/\bq≠c2):=⟨by omega,by omega,by omega,by omega,by omega,by omega,by omega,by omega⟩
      clear B0 B1 B2 B3;refine⟨aB wb,fun _ h=>h,hV,?_⟩;have G1:aB wb (V.setRow c1 rc.cells.toArray):=aB.row hV L1 _;have G2:aB wb ((V.setRow c1 rc.cells.toArray).setRow c2 rd.cells.toArray):=G1.row L2 _;have H2:(V.setRow c1 rc.cells.toArray).heap[c2]? =some (.cells bV.cells.toArray 111 (0,0)):=(setRow_other _ _ _ _ NE.out.2).trans FC2.out;unfold dG FA.put2;simp only[Act.put,sA,sZ,sS,List.drop_succ_cons,List.drop_zero];apply aG;exact rfl;exact rfl;exact rfl;intro K hK
      refine wp_store_row 111 _ _ rfl c1 rc.cells.toArray rfl rfl 111 _ FC1.out (by kernel_rfl) rfl (RV.one _) ?_;refine hK.out _ _ G1 ?_;clear hK;simp only[Act.put];apply aG;exact rfl;exact rfl;exact rfl;intro K hK;refine wp_store_row 111 _ _ rfl c2 rd.cells.toArray rfl rfl 111 _ H2 (by kernel_rfl) rfl (RV.one _) ?_;refine hK.out _ _ G2 ?_;clear hK;simp only[Act.put];refine aK ?_;have GW:=Lh (GW0.out.tr G2);have FP:=Lh (aC G2 FP.out);have FQ:=Lh (aC G2 FQ.out);have F0:=Lh (aC G2 F0.out)
      have F1:=Lh (aC G2 F1.out);have RC:Hid (rc.rd ((V.setRow c1 rc.cells.toArray).setRow c2 rd.cells.toArray) (fun b=>w.heap.size<=b) 5):=(RC.out.row N1 _).row (N2.row NE.out.2 _) _;have RD:Hid (rd.rd ((V.setRow c1 rc.cells.toArray).setRow c2 rd.cells.toArray) (fun b=>w.heap.size<=b) 5):=(RD.out.row N1 _).row (N2.row NE.out.2 _) _;have FC2n:=Lh (setRow_heap _ c2 _ rd.cells.toArray _ _ H2);have FC1:=Lh ((setRow_other _ c2 c1 rd.cells.toArray NE.out.1).trans (setRow_heap _ c1 _ rc.cells.toArray _ _ FC1.out));have FC2:=Lh FC2n.out
      clear FC2n H2 G1 G2 N1 N2 L1 L2 hV hne hc1 hc2 hJ GW0 LEB;generalize (V.setRow c1 rc.cells.toArray).setRow c2 rd.cells.toArray=w9 at*
      cases ok1 with
      |false=>
       have HV:Hid ((bZ ⟨px,py⟩ ⟨qx,qy⟩ lo hi).2.2=false):=by
        show _=_;unfold bZ;rw[if_neg (by rw[NB.out];decide)];dsimp only;rw[QS.out,if_pos rfl]
       have H1:=Lh ((setRow_other w9 r0 r1 aU.cells.toArray NN.out.2).trans F1.out);go_wp2_with (first|(refine wpList_store_row rfl 113 _ _ rfl r0 aU.cells.toArray rfl rfl 113 _ F0.out (by kernel_rfl) rfl (PV.one _) ?_)|(refine wpList_store_row rfl 113 _ _ rfl r1 aU.cells.toArray rfl rfl 113 _ H1.out (by kernel_rfl) rfl (PV.one _) ?_))
       refine bodyPost_ret (v:=.tuple #[.agg aU.cells.toArray,.agg aU.cells.toArray,.bool false]) ?_ rfl ?_
       ·exact cJ rfl _ _ r0 r1 _ _ _ _ _ _ _ _ rfl ((setRow_other _ r1 r0 _ NN.out.1).trans (setRow_heap _ r0 _ _ _ _ F0.out)) rfl (setRow_heap _ r1 _ _ _ _ H1.out) rfl rfl rfl Tryz.underlying113 (by kernel_rfl) Tryz.underlying113 (by kernel_rfl)
       ·exact HR.out aU aU false _ ((GW.out.row LE.out.1 _).row LE.out.2 _) HV.out (fun h=>by cases h)
      |true=>
       go_upto_region 6 with fail
       have p1:=cell_of_row _ bp 1 _ _ (0,0) FP.out;have q1:=cell_of_row _ bq 1 _ _ (0,0) FQ.out;go_wp2_with (first|(refine wpList_load_row rfl 111 _ rfl c1 rfl 111 _ _ _ FC1.out Tryz.underlying111 rfl (by kernel_rfl) ?_)|(refine wpList_load_row rfl 111 _ rfl c2 rfl 111 _ _ _ FC2.out Tryz.underlying111 rfl (by kernel_rfl) ?_))
       refine slab_q rc rd py qy lo hi 5 (fun b=>w.heap.size<=b) _ RC.out RD.out (by omega) (by omega) HP.out.2.1 HP.out.2.2.2.1 HP.out.2.2.2.2.1 HP.out.2.2.2.2.2 ?_;intro re rf ok2 wc hgc hs hre hrf;have RE:=Lh (hre.into (T:=fun b=>w.heap.size<=b) fun b hb=>by have:=GW.out.size;rcases hb with h|h<;>omega);have RF:=Lh (hrf.into (T:=fun b=>w.heap.size<=b) fun b hb=>by have:=GW.out.size;rcases hb with h|h<;>omega);have QS2:=Lh hs;have FP:=Lh (aC hgc FP.out);have FQ:=Lh (aC hgc FQ.out)
       have F0:=Lh (aC hgc F0.out);have F1:=Lh (aC hgc F1.out);have FC1:=Lh (aC hgc FC1.out);have FC2:=Lh (aC hgc FC2.out);have GW:=Lh (GW.out.tr hgc);clear hgc hs hre hrf RC RD p1 q1;have H2:=Lh ((setRow_other wc c1 c2 re.cells.toArray NE.out.2).trans FC2.out)
       go_upto_region 7 with (first|(refine wpList_store_row rfl 111 _ _ rfl c1 re.cells.toArray rfl rfl 111 _ FC1.out (by kernel_rfl) rfl (RV.one _) ?_)|(refine wpList_store_row rfl 111 _ _ rfl c2 rf.cells.toArray rfl rfl 111 _ H2.out (by kernel_rfl) rfl (RV.one _) ?_))
       have N1:eI wc c1:=⟨_,_,_,FC1.out,RV.noint _⟩
       have N2:eI wc c2:=⟨_,_,_,FC2.out,RV.noint _⟩
       have RE:Hid (re.rd ((wc.setRow c1 re.cells.toArray).setRow c2 rf.cells.toArray) (fun b=>w.heap.size<=b) 5):=(RE.out.row N1 _).row (N2.row NE.out.2 _) _;have RF:Hid (rf.rd ((wc.setRow c1 re.cells.toArray).setRow c2 rf.cells.toArray) (fun b=>w.heap.size<=b) 5):=(RF.out.row N1 _).row (N2.row NE.out.2 _) _;have FC2n:=Lh (setRow_heap _ c2 _ rf.cells.toArray _ _ H2.out);have FC1:=Lh ((setRow_other _ c2 c1 rf.cells.toArray NE.out.1).trans (setRow_heap _ c1 _ re.cells.toArray _ _ FC1.out));have FC2:=Lh FC2n.out
       have GW:=Lh ((GW.out.row LC.out.1 re.cells.toArray).row LC.out.2 rf.cells.toArray);have FP:=Lh ((setRow_other (wc.setRow c1 re.cells.toArray) c2 bp rf.cells.toArray CR.out.2.2.2.2.2.1).trans ((setRow_other wc c1 bp re.cells.toArray CR.out.2.2.2.2.1).trans FP.out));have FQ:=Lh ((setRow_other (wc.setRow c1 re.cells.toArray) c2 bq rf.cells.toArray CR.out.2.2.2.2.2.2.2).trans ((setRow_other wc c1 bq re.cells.toArray CR.out.2.2.2.2.2.2.1).trans FQ.out))
       have F0:=Lh ((setRow_other (wc.setRow c1 re.cells.toArray) c2 r0 rf.cells.toArray CR.out.2.1).trans ((setRow_other wc c1 r0 re.cells.toArray CR.out.1).trans F0.out));have F1:=Lh ((setRow_other (wc.setRow c1 re.cells.toArray) c2 r1 rf.cells.toArray CR.out.2.2.2.1).trans ((setRow_other wc c1 r1 re.cells.toArray CR.out.2.2.1).trans F1.out));clear FC2n H2 N1 N2;generalize (wc.setRow c1 re.cells.toArray).setRow c2 rf.cells.toArray=wd at*
       cases ok2 with
       |false=>
        have HV:Hid ((bZ ⟨px,py⟩ ⟨qx,qy⟩ lo hi).2.2=false):=by
         show _=_;unfold bZ;rw[if_neg (by rw[NB.out];decide)];dsimp only;rw[QS.out];dsimp only;rw[QS2.out];rfl
        have H1:=Lh ((setRow_other wd r0 r1 aU.cells.toArray NN.out.2).trans F1.out);go_wp2_with (first|(refine wpList_store_row rfl 113 _ _ rfl r0 aU.cells.toArray rfl rfl 113 _ F0.out (by kernel_rfl) rfl (PV.one _) ?_)|(refine wpList_store_row rfl 113 _ _ rfl r1 aU.cells.toArray rfl rfl 113 _ H1.out (by kernel_rfl) rfl (PV.one _) ?_))
        refine bodyPost_ret (v:=.tuple #[.agg aU.cells.toArray,.agg aU.cells.toArray,.bool false]) ?_ rfl ?_
        ·exact cJ rfl _ _ r0 r1 _ _ _ _ _ _ _ _ rfl ((setRow_other _ r1 r0 _ NN.out.1).trans (setRow_heap _ r0 _ _ _ _ F0.out)) rfl (setRow_heap _ r1 _ _ _ _ H1.out) rfl rfl rfl Tryz.underlying113 (by kernel_rfl) Tryz.underlying113 (by kernel_rfl)
        ·exact HR.out aU aU false _ ((GW.out.row LE.out.1 _).row LE.out.2 _) HV.out (fun h=>by cases h)
       |true=>
        have HV:Hid (bZ ⟨px,py⟩ ⟨qx,qy⟩ lo hi=(onQ ⟨px,py⟩ ⟨qx,qy⟩ re.q,onQ ⟨px,py⟩ ⟨qx,qy⟩ rf.q,true)):=by
         show _=_;unfold bZ;rw[if_neg (by rw[NB.out];decide)];dsimp only;rw[QS.out];dsimp only;rw[QS2.out];rfl
        rw[HV.out] at HR;dsimp only at HR;clear HV QS QS2 NB;go_wp2_with fail
        have G0:=Lh ((aB.refl wd).dr);have FP:=Lh (aC G0.out FP.out);have FQ:=Lh (aC G0.out FQ.out);have F0:=Lh (aC G0.out F0.out);have F1:=Lh (aC G0.out F1.out);have FC1:=Lh (aC G0.out FC1.out);have FC2:=Lh (aC G0.out FC2.out);have RE:=Lh (RE.out.gr G0.out);have RF:=Lh (RF.out.gr G0.out);have GW:=Lh (GW.out.tr G0.out);clear G0
        have OE:=Lh fun S W (h:re.rd W S 5) (R:Ending->World->Prop) hR=>on_q ⟨px,py⟩ ⟨qx,qy⟩ re 5 S W h (by omega) HPO.out.1 HPO.out.2 (R:=R) hR
        have OF:=Lh fun S W (h:rf.rd W S 5) (R:Ending->World->Prop) hR=>on_q ⟨px,py⟩ ⟨qx,qy⟩ rf 5 S W h (by omega) HPO.out.1 HPO.out.2 (R:=R) hR
        unfold Pt.cells at OE OF;dsimp only at OE OF;refine aE (aB wd.drew) ((aB.refl _)) 7 [0,1,2,4,5,6,3] (by kernel_rfl) (by kernel_rfl) (by intro c a d v w h;cases d<;>exact h) ?_;apply aD;exact rfl;exact rfl;(intro W hW;exact aP 51 _ rfl bp rfl 51 _ _ _ (aC hW FP.out) rfl Tryz.underlying51 (by kernel_rfl))
        try simp only[Act.put,sA,sZ,sS]
        apply aD;exact rfl;exact rfl;(intro W hW;exact aP 51 _ rfl bq rfl 51 _ _ _ (aC hW FQ.out) rfl Tryz.underlying51 (by kernel_rfl))
        try simp only[Act.put,sA,sZ,sS]
        apply aD;exact rfl;exact rfl;(intro W hW;exact aP 111 _ rfl c1 rfl 111 _ _ _ (aC hW FC1.out) rfl Tryz.underlying111 (by kernel_rfl))
        try simp only[Act.put,sA,sZ,sS]
        apply aD;exact rfl;exact rfl;(intro W hW;exact aP 51 _ rfl bp rfl 51 _ _ _ (aC hW FP.out) rfl Tryz.underlying51 (by kernel_rfl))
        try simp only[Act.put,sA,sZ,sS]
        apply aD;exact rfl;exact rfl;(intro W hW;exact aP 51 _ rfl bq rfl 51 _ _ _ (aC hW FQ.out) rfl Tryz.underlying51 (by kernel_rfl))
        try simp only[Act.put,sA,sZ,sS]
        apply aD;exact rfl;exact rfl;(intro W hW;exact aP 111 _ rfl c2 rfl 111 _ _ _ (aC hW FC2.out) rfl Tryz.underlying111 (by kernel_rfl))
        try simp only[Act.put,sA,sZ,sS]
        generalize wd.drew=we at*;clear FP FQ FC1 FC2;apply aG;exact rfl;exact rfl;exact rfl;intro K hK;go_simp;go_at_call 91;refine OE.out _ _ RE.out _ ?_;intro rg w6 hg6 hqg hrg;have RF:=Lh (RF.out.gr hg6);have RG:=Lh (hrg.into (T:=fun b=>w.heap.size<=b) fun b hb=>by have:=GW.out.size;omega);have QG:=Lh hqg;have G6:=Lh hg6;refine hK.out _ _ hg6 ?_;clear hK hg6 hqg hrg OE
        try simp only[Act.put,sA,sZ,sS]
        refine aK ?_;simp only[List.drop_succ_cons,List.drop_zero];go_wp2_with fail
        go_at_call 91;refine OF.out _ _ RF.out _ ?_;intro ri w7 hg7 hqi hri;have RG:=Lh (RG.out.gr hg7);have LS:Hid (w.heap.size<=w6.heap.size):=(GW.out.tr G6.out).size;have RI:=Lh (hri.into (T:=fun b=>w.heap.size<=b) fun b hb=>by have:=LS.out;omega);have QI:=Lh hqi;have G7:=Lh (G6.out.tr hg7);have F0:=Lh (aC G7.out F0.out);have F1:=Lh (aC G7.out F1.out);have GW:=Lh (GW.out.tr G7.out);clear hg7 hqi hri OF RE RF G6 G7 LS;have H1:=Lh ((setRow_other w7 r0 r1 rg.cells.toArray NN.out.2).trans F1.out)
        have M0:eI w7 r0:=⟨_,_,_,F0.out,PV.noint _⟩
        have M1:eI w7 r1:=⟨_,_,_,F1.out,PV.noint _⟩
        go_wp2_with (first|(refine wpList_store_row rfl 113 _ _ rfl r0 rg.cells.toArray rfl rfl 113 _ F0.out (by kernel_rfl) rfl (PV.one _) ?_)|(refine wpList_store_row rfl 113 _ _ rfl r1 ri.cells.toArray rfl rfl 113 _ H1.out (by kernel_rfl) rfl (PV.one _) ?_))
        refine bodyPost_ret (v:=.tuple #[.agg rg.cells.toArray,.agg ri.cells.toArray,.bool true]) ?_ rfl ?_
        ·exact cJ rfl _ _ r0 r1 _ _ _ _ _ _ _ _ rfl ((setRow_other _ r1 r0 _ NN.out.1).trans (setRow_heap _ r0 _ _ _ _ F0.out)) rfl (setRow_heap _ r1 _ _ _ _ H1.out) rfl rfl rfl Tryz.underlying113 (by kernel_rfl) Tryz.underlying113 (by kernel_rfl)
        ·exact HR.out rg ri true _ ((GW.out.row LE.out.1 _).row LE.out.2 _) rfl (fun _=>⟨QG.out,QI.out,(RG.out.row M0 _).row (M1.row NN.out.2 _) _,(RI.out.row M0 _).row (M1.row NN.out.2 _) _⟩)
def PVs (l:List PV):List Value:=l.flatMap PV.cells
theorem jS (l m:List PV):PVs (l++m)=PVs l++PVs m:=List.flatMap_append
theorem lL (l:List PV):(PVs l).length=l.length*8:=qS _ _ PV.cells_len l
theorem iH:jT Tryz.prog 79 113 (.agg #[.bool false,.slice none 0 0,.bool false,.slice none 0 0,.bool false,.slice none 0 0,.bool false,.slice none 0 0]) 8 128:=⟨by kernel_rfl,by kernel_rfl,rfl,by decide,by decide⟩
def dN (l:List PV)(s:PV):List PV:=if (l.getLast?.any fun x=>kK x.q s.q)=true then l else l++[s]
theorem putP_len (l:List PV)(s:PV):(dN l s).length<=l.length+1:=by unfold dN;split<;>simp
theorem xM (a b:Rat):(fR a b==0)=decide (a=b):=by
 rw[Bool.eq_iff_iff,beq_iff_eq,uO,decide_eq_true_eq]
set_option maxHeartbeats 4000000 in
theorem same_q (a b:PV)(k1 k2:Nat)(S T:Nat->Prop)(w:World)(ha:a.rd w S k1)(hb:b.rd w T k2)(h1:k1<=10000)(h2:k2<=10000){R:Ending->World->Prop}
  (hR:∀ w',aB w w'->R (.returned (.bool (kK a.q b.q))) w'):
  Calls Tryz.prog 92 #[.agg a.cells.toArray,.agg b.cells.toArray] w R:=by
 have HR1:∀ c,kK a.q b.q=c->∀ w',aB w w'->R (.returned (.bool c)) w':=by rintro c rfl;exact hR
 have HR:=Lh HR1;clear hR HR1;have OX:=Lh fun W (hg:aB w W) (R:Ending->World->Prop) hR=>jN a.x b.x k1 k2 S T W (ha.1.gr hg) (hb.1.gr hg) h1 h2 (R:=R) hR
 have OY:=Lh fun W (hg:aB w W) (R:Ending->World->Prop) hR=>jN a.y b.y k1 k2 S T W (ha.2.gr hg) (hb.2.gr hg) h1 h2 (R:=R) hR
 obtain⟨m1,hm1⟩:∃ m,fR a.x.q b.x.q=m:=⟨_,rfl⟩
 obtain⟨m2,hm2⟩:∃ m,fR a.y.q b.y.q=m:=⟨_,rfl⟩
 have EV:Hid (kK a.q b.q=((m1==0)&&(m2==0))):=by
  show _=_;unfold kK PV.q;dsimp only;rw[<-xM,<-xM,hm1,hm2]
 rw[hm1] at OX;rw[hm2] at OY;clear ha hb h1 h2 hm1 hm2;obtain⟨⟨⟨a1,a2,a3,a4⟩,⟨a5,a6,a7,a8⟩,aq⟩,⟨⟨b1,b2,b3,b4⟩,⟨b5,b6,b7,b8⟩,bq⟩⟩:=a;obtain⟨⟨⟨c1,c2,c3,c4⟩,⟨c5,c6,c7,c8⟩,cq⟩,⟨⟨d1,d2,d3,d4⟩,⟨d5,d6,d7,d8⟩,dq⟩⟩:=b;unfold PV.cells RV.cells at*;dsimp only at OX OY ⊢
 obtain⟨wa,hwa⟩:∃ wa,wa=(w.alloc (.cells #[.bool a1,.slice a2 a3 a4,.bool a5,.slice a6 a7 a8,.bool b1,.slice b2 b3 b4,.bool b5,.slice b6 b7 b8] 113)).alloc (.cells #[.bool c1,.slice c2 c3 c4,.bool c5,.slice c6 c7 c8,.bool d1,.slice d2 d3 d4,.bool d5,.slice d6 d7 d8] 113):=⟨_,rfl⟩
 have GA:Hid (aB w wa):=by subst hwa;exact((aB.refl w).al _).al _
 have FA:Hid (wa.heap[w.heap.size]? =some (.cells #[.bool a1,.slice a2 a3 a4,.bool a5,.slice a6 a7 a8,.bool b1,.slice b2 b3 b4,.bool b5,.slice b6 b7 b8] 113 (0,0))):=by
  subst hwa;exact aR w _ _ ((aB.refl _).al _)
 have FB:Hid (wa.heap[w.heap.size+1]? =some (.cells #[.bool c1,.slice c2 c3 c4,.bool c5,.slice c6 c7 c8,.bool d1,.slice d2 d3 d4,.bool d5,.slice d6 d7 d8] 113 (0,0))):=by
  subst hwa;have:=aR (w.alloc (.cells #[.bool a1,.slice a2 a3 a4,.bool a5,.slice a6 a7 a8,.bool b1,.slice b2 b3 b4,.bool b5,.slice b6 b7 b8] 113)) #[.bool c1,.slice c2 c3 c4,.bool c5,.slice c6 c7 c8,.bool d1,.slice d2 d3 d4,.bool d5,.slice d6 d7 d8] 113 (aB.refl _)
  rwa[World.size_alloc] at this
 obtain⟨c1,hc1⟩:∃ c,(m1==0)=c:=⟨_,rfl⟩
 obtain⟨c2,hc2⟩:∃ c,(m2==0)=c:=⟨_,rfl⟩
 rw[hc1,hc2] at EV;have z0:=cell_of_row _ w.heap.size 0 _ _ (0,0) FA.out;have y0:=cell_of_row _ (w.heap.size+1) 0 _ _ (0,0) FB.out;have z1:=cell_of_row _ w.heap.size 1 _ _ (0,0) FA.out;have y1:=cell_of_row _ (w.heap.size+1) 1 _ _ (0,0) FB.out;have z2:=cell_of_row _ w.heap.size 2 _ _ (0,0) FA.out;have y2:=cell_of_row _ (w.heap.size+1) 2 _ _ (0,0) FB.out;have z3:=cell_of_row _ w.heap.size 3 _ _ (0,0) FA.out;have y3:=cell_of_row _ (w.heap.size+1) 3 _ _ (0,0) FB.out;go_enter Tryz.func92,Tryz.ntmps92
 go_wp2_with fail
 rw[<-hwa];clear hwa;go_wp2_with fail
 go_at_call 93;refine OX.out _ GA.out _ ?_;intro w1 hg1;have FA:=Lh (aC hg1 FA.out);have FB:=Lh (aC hg1 FB.out);have GA:=Lh (GA.out.tr hg1);clear hg1 z0 z1 z2 z3 y0 y1 y2 y3 OX
 cases c1 with
 |false=>
  go_wp2;exact HR.out _ EV.out _ GA.out
 |true=>
  have z4:=cell_of_row _ w.heap.size 4 _ _ (0,0) FA.out;have y4:=cell_of_row _ (w.heap.size+1) 4 _ _ (0,0) FB.out;have z5:=cell_of_row _ w.heap.size 5 _ _ (0,0) FA.out;have y5:=cell_of_row _ (w.heap.size+1) 5 _ _ (0,0) FB.out;have z6:=cell_of_row _ w.heap.size 6 _ _ (0,0) FA.out;have y6:=cell_of_row _ (w.heap.size+1) 6 _ _ (0,0) FB.out;have z7:=cell_of_row _ w.heap.size 7 _ _ (0,0) FA.out;have y7:=cell_of_row _ (w.heap.size+1) 7 _ _ (0,0) FB.out;go_wp2_with fail
  go_at_call 93;refine OY.out _ GA.out _ ?_;intro w2 hg2;have GA:=Lh (GA.out.tr hg2);clear hg2;go_wp2;exact HR.out _ EV.out _ GA.out
set_option maxHeartbeats 8000000 in
theorem vS (l:List PV)(s:PV)(k:Nat)(S:Nat->Prop)(v:Value)(w0 w:World)(hg0:aB w0 w)(hown:w.ownsRow w0.heap.size 113 8 v l.length (PVs l))(hl:l.length<=100000)(hs:s.rd w S k)(hv:∀ x∈l,x.rd w S k)(hk:k<=10000){R:Ending->World->Prop}
  (hR:∀ v' w',w'.ownsRow w0.heap.size 113 8 v' (dN l s).length (PVs (dN l s))->w.grownBy w' v.ownBlock->fL w v v'->R (.returned v') w'):
  Calls Tryz.prog 63 #[v,.agg s.cells.toArray] w R:=by
 have HR1:∀ m,dN l s=m->∀ v' w',w'.ownsRow w0.heap.size 113 8 v' m.length (PVs m)->w.grownBy w' v.ownBlock->fL w v v'->R (.returned v') w':=by rintro m rfl;exact hR
 have HR:=Lh HR1;clear hR HR1;have HO0:=Lh hown;obtain⟨A,c,rfl⟩:=aH hown;have HD:=Rd.own_lt hown;obtain⟨_,A',c',hv',k1,k2,k3,k4⟩:=HD;injection hv' with e1 e2 e3
 clear e2;subst e1 e3;unfold maxLen at k2;clear hown k3;have PS:Hid (dN l s=if (l.getLast?.any fun x=>kK x.q s.q)=true then l else l++[s]):=rfl;have SC:Hid (PVs (l++[s])=PVs l++s.cells):=by show _=_;rw[jS];simp[PVs]
 have G1:Hid (aB w (w.alloc (.cells s.cells.toArray 113))):=(aB.refl w).al _;have G0:=Lh (hg0.al (.cells s.cells.toArray 113));have BS:=Lh (aN.laid s.cells.toArray 113 (aB.refl w));have HO:=Lh (aJ HO0.out G1.out);have HS:=Lh hs;have HV:=Lh hv;have HK:=Lh hk;clear hg0 hs hv hk
 by_cases h0:l.length=0
 ·have t1:IntKind.i64.wrap ((l.length:Int)-1)=-1:=by rw[IntWalk.i64_in _ (by omega)];omega
  have PE:Hid (dN l s=l++[s]):=by
   have:l=[]:=List.eq_nil_of_length_eq_zero h0;subst this;show dN [] s=[]++[s];rfl
  have t2:l=[]:=List.eq_nil_of_length_eq_zero h0;obtain⟨⟨⟨a1,a2,a3,a4⟩,⟨a5,a6,a7,a8⟩,aq⟩,⟨⟨b1,b2,b3,b4⟩,⟨b5,b6,b7,b8⟩,bq⟩⟩:=s;unfold PV.cells at*;dsimp only at*;clear k4 t2 t1;go_enter Tryz.func63,Tryz.ntmps63
  go_wp2_with fail
  generalize w.alloc (.cells #[.bool a1,.slice a2 a3 a4,.bool a5,.slice a6 a7 a8,.bool b1,.slice b2 b3 b4,.bool b5,.slice b6 b7 b8] 113)=w1 at*;generalize w.heap.size=bb at*;refine aE (aB w1) ((aB.refl w1).dr) 11 [0,1,2,3,4,5,6,7,8,9,10] (by kernel_rfl) (by kernel_rfl) (by intro c a d v w h;cases d<;>exact h) ?_
  iterate 4 (apply aD;exact rfl;exact rfl;(intro W hW;(try clear hW);go_simp;with_reducible rfl);try simp only[Act.put,sA,sZ,sS])
  iterate 7 (apply bF;exact rfl;exact rfl;try simp only[Act.put,sA,sZ,sS])
  refine aK ?_;simp only[List.drop_succ_cons,List.drop_zero];have HO:=Lh (aJ HO.out (aB.refl _).dr);have BS:=Lh (BS.out.tr (aB.refl _).dr);have G0:=Lh (G0.out.dr);have G1:=Lh (G1.out.dr);have y0:=BS.out.cell 0;have y1:=BS.out.cell 1;have y2:=BS.out.cell 2;have y3:=BS.out.cell 3;have y4:=BS.out.cell 4;have y5:=BS.out.cell 5;have y6:=BS.out.cell 6;have y7:=BS.out.cell 7
  go_wp2_with (at_builtin;refine aM rfl _ _ rfl iH HO.out rfl 1 _ rfl _ rfl (by decide) rfl (by simp[Value.oneCell']) (by omega) G0.out ⟨Nat.le_refl _,G0.out.size⟩ ?_;intro v5 w5 hO5 hg5 hgr5 hb5;have HO5:=Lh hO5;have GR5:=Lh hgr5;have HB5:=Lh hb5;clear hO5 hg5 hgr5 hb5)
  refine HR.out _ PE.out _ _ (aO HO5.out (by rw[List.length_append,List.length_singleton]) (by rw[SC.out])) (kN (iF G1.out) GR5.out) ?_;rcases HB5.out with h|h
  ·exact .inl h
  ·exact .inr ⟨_,h,by have:=G1.out.size;omega⟩
 ·obtain⟨n,hn⟩:∃ n,l.length=n+1:=⟨l.length-1,by omega⟩
  have t1:IntKind.i64.wrap ((l.length:Int)-1)=(n:Int):=by rw[IntWalk.i64_in _ (by omega)];omega
  have hlt:n<l.length:=by omega
  have hlast:l.getLast? =some l[n]:=by
   rw[List.getLast?_eq_getElem?,hn,Nat.add_sub_cancel,List.getElem?_eq_getElem hlt]
  obtain⟨b,o,rfl,hS,hc⟩:=k4 (by omega);have e0:=fun W (h:aB w W)=>aL PV.cells_len h hS hc hlt
  have PE:=PS.out;rw[hlast] at PE;have PX:=Lh (show dN l s=if kK (l[n]).q s.q=true then l else l++[s] from PE);have SM:=Lh fun W (h:aB w W) (R:Ending->World->Prop) hR=>same_q (l[n]'hlt) s k k S S W ((HV.out _ (List.getElem_mem hlt)).gr h) (HS.out.gr h) HK.out HK.out (R:=R) hR
  have T0:Hid (0<l.length/\¬ l=[]):=⟨by omega,by rintro rfl;simp at hlt⟩
  clear k4 hc h0 PS PE hlast hn HV HS HK
  obtain⟨sq,hsq⟩:∃ c,kK (l[n]).q s.q=c:=⟨_,rfl⟩
  rw[hsq] at PX SM;clear hsq;generalize l[n]=x at*;obtain⟨⟨⟨a1,a2,a3,a4⟩,⟨a5,a6,a7,a8⟩,aq⟩,⟨⟨b1,b2,b3,b4⟩,⟨b5,b6,b7,b8⟩,bq⟩⟩:=s;obtain⟨⟨⟨c1,c2,c3,c4⟩,⟨c5,c6,c7,c8⟩,cq⟩,⟨⟨d1,d2,d3,d4⟩,⟨d5,d6,d7,d8⟩,dq⟩⟩:=x;unfold PV.cells at*;dsimp only at*
  have E0:Hid (∀ W,aB w W->W.cell? ⟨b,o+n*8,none⟩=some (.bool c1)/\W.cell? ⟨b,o+n*8+1,none⟩=some (.slice c2 c3 c4)/\W.cell? ⟨b,o+n*8+2,none⟩=some (.bool c5)/\W.cell? ⟨b,o+n*8+3,none⟩=some (.slice c6 c7 c8)/\W.cell? ⟨b,o+n*8+4,none⟩=some (.bool d1)/\W.cell? ⟨b,o+n*8+5,none⟩=some (.slice d2 d3 d4)/\W.cell? ⟨b,o+n*8+6,none⟩=some (.bool d5)/\W.cell? ⟨b,o+n*8+7,none⟩=some (.slice d6 d7 d8)):=fun W h=>⟨e0 W h 0 _ rfl,e0 W h 1 _ rfl,e0 W h 2 _ rfl,e0 W h 3 _ rfl,e0 W h 4 _ rfl,e0 W h 5 _ rfl,e0 W h 6 _ rfl,e0 W h 7 _ rfl⟩
  clear e0;go_enter Tryz.func63,Tryz.ntmps63
  go_wp2_with fail
  generalize w.alloc (.cells #[.bool a1,.slice a2 a3 a4,.bool a5,.slice a6 a7 a8,.bool b1,.slice b2 b3 b4,.bool b5,.slice b6 b7 b8] 113)=w1 at*;generalize w.heap.size=bb at*;refine aE (aB w1) ((aB.refl w1).dr) 11 [0,1,2,3,4,5,6,7,8,9,10] (by kernel_rfl) (by kernel_rfl) (by intro c a d v w h;cases d<;>exact h) ?_
  iterate 11 (apply aD;exact rfl;exact rfl;(intro W hW;obtain⟨t0,t00⟩:=T0.out;obtain⟨x0,x1,x2,x3,x4,x5,x6,x7⟩:=E0.out W (G1.out.tr hW);have b1:=BS.out.tr hW;have s0:=b1.cell 0;have s1:=b1.cell 1;have s2:=b1.cell 2;have s3:=b1.cell 3;have s4:=b1.cell 4;have s5:=b1.cell 5;have s6:=b1.cell 6;have s7:=b1.cell 7;clear b1;(try clear hW);go_simp;with_reducible rfl);try simp only[Act.put,sA,sZ,sS])
  refine aK ?_;simp only[List.drop_succ_cons,List.drop_zero];have HO:=Lh (aJ HO.out (aB.refl _).dr);have BS:=Lh (BS.out.tr (aB.refl _).dr);have G0:=Lh (G0.out.dr);have G1:=Lh (G1.out.dr);go_wp2_with fail
  go_at_call 92;refine SM.out _ G1.out _ ?_;intro w2 hg2;have HO:=Lh (aJ HO.out hg2);have BS:=Lh (BS.out.tr hg2);have G0:=Lh (G0.out.tr hg2);have G1:=Lh (G1.out.tr hg2);clear hg2 SM E0 t1 hlt
  cases sq with
  |true=>
   go_wp2;exact HR.out _ (by rw[PX.out];rfl) _ _ (aJ HO0.out G1.out) (iF G1.out) (.inl rfl)
  |false=>
   have PE:Hid (dN l (⟨(⟨⟨a1,a2,a3,a4⟩,⟨a5,a6,a7,a8⟩,aq⟩:RV),(⟨⟨b1,b2,b3,b4⟩,⟨b5,b6,b7,b8⟩,bq⟩:RV)⟩:PV)=l++[(⟨(⟨⟨a1,a2,a3,a4⟩,⟨a5,a6,a7,a8⟩,aq⟩:RV),(⟨⟨b1,b2,b3,b4⟩,⟨b5,b6,b7,b8⟩,bq⟩:RV)⟩:PV)]):=by show _=_;rw[PX.out,if_neg (by decide)]
   have y0:=BS.out.cell 0;have y1:=BS.out.cell 1;have y2:=BS.out.cell 2;have y3:=BS.out.cell 3;have y4:=BS.out.cell 4;have y5:=BS.out.cell 5;have y6:=BS.out.cell 6;have y7:=BS.out.cell 7;go_wp2_with (at_builtin;refine aM rfl _ _ rfl iH HO.out rfl 1 _ rfl _ rfl (by decide) rfl (by simp[Value.oneCell']) (by omega) G0.out ⟨Nat.le_refl _,G0.out.size⟩ ?_;intro v5 w5 hO5 hg5 hgr5 hb5;have HO5:=Lh hO5;have GR5:=Lh hgr5;have HB5:=Lh hb5;clear hO5 hg5 hgr5 hb5)
   refine HR.out _ PE.out _ _ (aO HO5.out (by rw[List.length_append,List.length_singleton]) (by rw[SC.out])) (kN (iF G1.out) GR5.out) ?_;rcases HB5.out with h|h
   ·exact .inl h
   ·exact .inr ⟨_,h,by have:=G1.out.size;omega⟩
end Go.Proofs.YtjalimkajcjapaaGreatDoor
namespace Go.Proofs.YtjalimkajcjapaaGreatDoor
set_option maxRecDepth 100000
open Go.RowKit B
structure PRw where
 v:Value
 l:List PV
theorem nX:jT Tryz.prog 76 79 (.slice none 0 0) 1 24:=⟨by kernel_rfl,by kernel_rfl,rfl,by decide,by decide⟩
theorem cL.by_ {w w':World}{S:Nat->Prop}{v:Value}{z:Int}{k:Nat}{row:Option Nat}(h:cL w S v z k)(hg:w.grownBy w' row)(hS:∀ b,S b->some b≠row):cL w' S v z k:=by
 obtain⟨h1,m,h2,h3⟩:=h;exact⟨h1,m,h2,h3.by_ (by decide) hg hS⟩
theorem RV.rd.by_ {r:RV}{w w':World}{S:Nat->Prop}{k:Nat}{row:Option Nat}(h:r.rd w S k)(hg:w.grownBy w' row)(hS:∀ b,S b->some b≠row):r.rd w' S k:=by
 obtain⟨n,d,h1,h2,p,A,x,c,p',A',x',c',h3,h4,h5⟩:=h;exact⟨n,d,h1,h2,p,A,x,c,p',A',x',c',h3,h4.by_ hg hS,h5.by_ hg hS⟩
theorem PV.rd.by_ {p:PV}{w w':World}{S:Nat->Prop}{k:Nat}{row:Option Nat}(h:p.rd w S k)(hg:w.grownBy w' row)(hS:∀ b,S b->some b≠row):p.rd w' S k:=⟨h.1.by_ hg hS,h.2.by_ hg hS⟩
def eO (pv qv:Value)(b:Nat):Prop:=some b≠pv.ownBlock/\some b≠qv.ownBlock
structure RSt (w0:World) (pv qv:Value) (rows:List PRw) (part:List PV) (W:World):Prop where
 gr:aB w0 W
 op:W.ownsRow w0.heap.size 79 1 pv rows.length (rows.map PRw.v)
 oq:W.ownsRow w0.heap.size 113 8 qv part.length (PVs part)
 pq:∀ k,qv.ownBlock=some k->pv.ownBlock≠some k
 each:∀ r∈rows,Rd W (eO pv qv) 8 r.v r.l.length (PVs r.l)
 vals:∀ r∈rows,∀ p∈r.l,p.rd W (eO pv qv) 15
 pvals:∀ p∈part,p.rd W (eO pv qv) 15
theorem RSt.tr {w0:World}{pv qv:Value}{rows:List PRw}{part:List PV}{W W':World}(h:RSt w0 pv qv rows part W)(hg:aB W W'):RSt w0 pv qv rows part W':=
 ⟨h.gr.tr hg,aJ h.op hg,aJ h.oq hg,h.pq,fun r hr=>(h.each r hr).gr2 (by decide) hg,fun r hr p hp=>(h.vals r hr p hp).gr hg,fun p hp=>(h.pvals p hp).gr hg⟩
theorem RSt.off {w0:World}{pv qv:Value}{rows:List PRw}{part:List PV}{W:World}(h:RSt w0 pv qv rows part W){b:Nat}(hb:W.heap.size<=b):eO pv qv b:=
 ⟨fun e=>by have:=(h.op.lt b e.symm).2;omega,fun e=>by have:=(h.oq.lt b e.symm).2;omega⟩
theorem fL.off {W:World}{v v':Value}{b:Nat}(h:fL W v v')(hb:b<W.heap.size)(hv:some b≠v.ownBlock):some b≠v'.ownBlock:=fun e=>h.ne hb (fun e2=>hv e2.symm) e.symm
theorem RSt.put {w0:World}{pv qv qv':Value}{rows:List PRw}{part part':List PV}{W W':World}(h:RSt w0 pv qv rows part W)
  (hg:W.grownBy W' qv.ownBlock) (ho:W'.ownsRow w0.heap.size 113 8 qv' part'.length (PVs part')) (hf:fL W qv qv') (hp:∀ p∈part',p.rd W (eO pv qv) 15):
  RSt w0 pv qv' rows part' W':=by
 have pk:pv.ownBlock=none∨pv.ownBlock≠qv.ownBlock:=by
  cases e:pv.ownBlock with
  |none=>exact .inl rfl
  |some k=>exact .inr fun e2=>h.pq k e2.symm e
 have key:∀ p:PV,p.rd W (eO pv qv) 15->p.rd W' (eO pv qv') 15:=fun p hp=>((hp.both).by_ hg (fun b hb=>hb.1.2)).into fun b hb=>⟨hb.1.1,hf.off hb.2 hb.1.2⟩
 refine⟨bK h.gr hg (cA h.oq),h.op.kept hg pk,ho,?_,?_,fun r hr p hp=>key p (h.vals r hr p hp),fun p hx=>key p (hp p hx)⟩
 ·intro k hk e
  rcases hf with e1|⟨j,e1,hj⟩
  ·exact h.pq k (e1.symm.trans hk) e
  ·rw[hk] at e1
   injection e1 with e1
   have:=(h.op.lt k e).2;omega
 ·intro r hr
  exact(((h.each r hr).and_lt0 (by decide)).by_ (by decide) hg (fun b hb=>hb.1.2)).into fun b hb=>⟨hb.1.1,hf.off hb.2 hb.1.2⟩
theorem RSt.fin {w0:World}{pv qv pv':Value}{rows:List PRw}{part:List PV}{W W':World}(h:RSt w0 pv qv rows part W)
  (hg:W.grownBy W' pv.ownBlock) (ho:W'.ownsRow w0.heap.size 79 1 pv' (rows.length+1) (rows.map PRw.v++[qv])) (hf:fL W pv pv'):
  RSt w0 pv' (.slice none 0 0) (rows++[⟨qv,part⟩]) [] W':=by
 have nn:∀ b,some b≠(Value.slice none 0 0).ownBlock:=fun b=>by simp[Value.ownBlock]
 have key:∀ p:PV,p.rd W (eO pv qv) 15->p.rd W' (eO pv' (.slice none 0 0)) 15:=fun p hp=>((hp.both).by_ hg (fun b hb=>hb.1.1)).into fun b hb=>⟨hf.off hb.2 hb.1.1,nn b⟩
 refine⟨bK h.gr hg (cA h.op),aO ho (by simp) (by simp),World.ownsRow_nil _ _ _ _,fun k hk=>by simp[Value.ownBlock] at hk,?_,?_,fun p hp=>by simp at hp⟩
 ·intro r hr
  have k1:Rd W (fun b=>some b≠pv.ownBlock) 8 r.v r.l.length (PVs r.l):=by
   rcases List.mem_append.1 hr with hr|hr
   ·exact(h.each r hr).into fun b hb=>hb.1
   ·rw[List.mem_singleton.1 hr]
    exact(Rd.own h.oq).into fun b hb e=>h.pq b hb.symm e.symm
  exact((k1.and_lt0 (by decide)).by_ (by decide) hg (fun b hb=>hb.1)).into fun b hb=>⟨hf.off hb.2 hb.1,nn b⟩
 ·intro r hr p hp
  rcases List.mem_append.1 hr with hr|hr
  ·exact key p (h.vals r hr p hp)
  ·rw[List.mem_singleton.1 hr] at hp
   exact key p (h.pvals p hp)
theorem RSt.clr {w0:World}{pv qv:Value}{rows:List PRw}{part:List PV}{W:World}(h:RSt w0 pv qv rows part W):RSt w0 pv (.slice none 0 0) rows [] W:=by
 have nn:∀ b,some b≠(Value.slice none 0 0).ownBlock:=fun b=>by simp[Value.ownBlock]
 exact⟨h.gr,h.op,World.ownsRow_nil _ _ _ _,fun k hk=>by simp[Value.ownBlock] at hk,fun r hr=>(h.each r hr).into fun b hb=>⟨hb.1,nn b⟩,fun r hr p hp=>(h.vals r hr p hp).into fun b hb=>⟨hb.1,nn b⟩,fun p hp=>by simp at hp⟩
theorem RSt.new {w0:World}{pv qv:Value}{rows:List PRw}{part:List PV}{W:World}(h:RSt w0 pv qv rows part W)(p:PV)(hp:p.rd W (eO pv qv) 15):
  RSt w0 pv (.slice (some ⟨W.heap.size,0,none⟩) 1 1) rows [p] (W.alloc (.cells p.cells.toArray 113)):=by
 have gA:aB W (W.alloc (.cells p.cells.toArray 113)):=(aB.refl W).al _;have ob:(Value.slice (some ⟨W.heap.size,0,none⟩) 1 1).ownBlock=some W.heap.size:=by simp[Value.ownBlock]
 have nn:∀ b,b<W.heap.size->some b≠(Value.slice (some ⟨W.heap.size,0,none⟩) 1 1).ownBlock:=fun b hb=>by rw[ob];intro e;injection e with e;omega
 refine⟨h.gr.tr gA,aJ h.op gA,?_,?_,?_,?_,?_⟩
 ·exact aO (World.ownsRow_lit W p.cells.toArray 1 h.gr.size (by decide) rfl) rfl (by simp[PVs])
 ·intro k hk e
  rw[ob] at hk;injection hk with hk
  have:=(h.op.lt k e).2;omega
 ·intro r hr
  exact(((h.each r hr).and_lt0 (by decide)).gr2 (by decide) gA).into fun b hb=>⟨hb.1.1,nn b hb.2⟩
 ·intro r hr q hq
  exact((h.vals r hr q hq).both.gr gA).into fun b hb=>⟨hb.1.1,nn b hb.2⟩
 ·intro q hq
  rw[List.mem_singleton.1 hq]
  exact(hp.both.gr gA).into fun b hb=>⟨hb.1.1,nn b hb.2⟩
theorem wA (l:List PtQ)(s:PtQ):(gK l s).length<=l.length+1:=by unfold gK;split<;>simp
theorem partQ_len (l:List Pt)(lo hi:Int)(part:List PtQ)(k:Nat)(h:part.length<=2*k):(gT l lo hi part k).length<=2*(k+1):=by
 unfold gT
 split
 ·omega
 ·split
  ·split
   ·simp;omega
   ·omega
  ·split
   ·omega
   ·split
    ·refine Nat.le_trans (wA _ _) ?_
     refine Nat.le_trans (Nat.succ_le_succ (wA _ _)) ?_;omega
    ·omega
theorem oN (l:List Pt)(lo hi:Int):∀ k,(bT l lo hi k).1.length<=k/\(bT l lo hi k).2.length<=2*k
 |0=>⟨Nat.le_refl _,Nat.le_refl _⟩
 |k+1=>by
  obtain⟨h1,h2⟩:=oN l lo hi k;rw[eR];unfold lM;have h3:=partQ_len l lo hi _ k h2
  split
  ·omega
  ·split
   ·unfold flQ
    dsimp only;refine⟨?_,by simp⟩;rw[List.length_append]
    split<;>simp<;>omega
   ·dsimp only;omega
theorem putP_q (l:List PV)(s:PV):(dN l s).map PV.q=gK (l.map PV.q) s.q:=by
 unfold dN gK;rw[List.getLast?_map]
 cases h:l.getLast? with
 |none=>simp
 |some x=>
  simp only[Option.map_some,Option.any_some]
  split<;>simp
theorem wB {l:List PV}{s x:PV}(h:x∈dN l s):x∈l∨x=s:=by
 unfold dN at h
 split at h
 ·exact .inl h
 ·rcases List.mem_append.1 h with h|h
  ·exact .inl h
  ·exact .inr (List.mem_singleton.1 h)
def RQ (rows:List PRw):List (List PtQ):=rows.map fun x=>x.l.map PV.q
theorem stepQ_at {l:List Pt}{lo hi:Int}{k:Nat}{p:Pt}(h:l[k]? =some p)(st:QS):lM l lo hi st k=if p.inside lo hi=false∨k+1=l.length then flQ (st.1,gT l lo hi st.2 k) else(st.1,gT l lo hi st.2 k):=by
 unfold lM;rw[h]
set_option maxHeartbeats 8000000 in
theorem rclip_any (l:List Pt)(lo hi:Int)(v:Value)(S:Nat->Prop)(w:World)(hb:Rd w S 2 v l.length (Pts l))(hl:l.length<=1000)(hok:∀ p∈l,p.ok)(hlo:I64 lo)(hhi:I64 hi){R:Ending->World->Prop}
  (hR:∀ (r:Value) (rows:List PRw) (w':World),w'.ownsRow w.heap.size 79 1 r rows.length (rows.map PRw.v)->RQ rows=oO l lo hi->(∀ x∈rows,Rd w' (fun _=>True) 8 x.v x.l.length (PVs x.l)/\∀ p∈x.l,p.rd w' (fun _=>True) 15)->aB w w'->R (.returned r) w'):
  Calls Tryz.prog 37 #[v,.int .i64 lo,.int .i64 hi] w R:=by
 have HR:=Lh hR;clear hR;have hb:=hb.lt (by decide);obtain⟨_,A,c,rfl,k1,k2,k3,k4⟩:=hb;unfold maxLen at k2;have HOK:=Lh hok;have HI:=Lh (And.intro hlo hhi);clear hok hlo hhi;have tw:IntKind.i64.wrap ((l.length:Int)-1)=(l.length:Int)-1:=IntWalk.i64_in _ (by omega);have TW:=Lh tw;clear tw;go_enter Tryz.func37,Tryz.ntmps37
 go_wp2
 go_loopw [9,8,7] (fun i q p wr=>∃ (k:Nat) (rows:List PRw) (part:List PV),k<=l.length/\i=.int .i64 k/\Hid ((RQ rows,part.map PV.q)=bT l lo hi k)/\Hid (RSt w p q rows part wr)) (fun i _ _ _=>l.length-(intOf i).toNat)
 case atStart=>exact⟨0,[],[],Nat.zero_le _,rfl,rfl,⟨aB.refl _,World.ownsRow_nil _ _ _ _,World.ownsRow_nil _ _ _ _,fun k hk=>by simp[Value.ownBlock] at hk,fun r hr=>by simp at hr,fun r hr=>by simp at hr,fun p hp=>by simp at hp⟩⟩
 case round=>
  obtain⟨k,rows,part,hk,rfl,hct,hst⟩:=hrel;obtain⟨ap,cp,rfl⟩:=aH hst.out.op;obtain⟨aq,cq,rfl⟩:=aH hst.out.oq
  have LN:Hid (rows.length<=k/\part.length<=2*k):=by
   have h:=oN l lo hi k;rw[<-hct.out] at h;exact⟨by simpa [RQ] using h.1,by simpa using h.2⟩
  by_cases hlt:k<l.length
  ·obtain⟨bl,o,rfl,hS,hc⟩:=k4 (by omega)
   have e0:=fun W (h:aB w W)=>aL Pt.cells_len h hS hc hlt
   have HP:Hid (l[k]? =some (l[k]'hlt)):=List.getElem?_eq_getElem hlt;have PO:=HOK.out _ (List.getElem_mem hlt)
   have tq:∃ b,(((k:Int)==(l.length:Int)-1)=b/\b=decide (k+1=l.length)):=⟨_,rfl,by rw[Bool.eq_iff_iff,beq_iff_eq,decide_eq_true_eq];omega⟩
   obtain⟨lst,tq1,tq2⟩:=tq;have TQ:=Lh tq1;have TL:=Lh tq2;clear tq1 tq2;have SQ:Hid (bT l lo hi (k+1)=lM l lo hi (RQ rows,part.map PV.q) k):=by show _=_;rw[hct.out,eR]
   clear hct
   have PK:Hid (0<k->∃ q,q.ok/\l[k-1]? =some q/\∀ W,aB w W->W.cell? ⟨bl,o+(k-1)*2,none⟩=some (.int .i64 q.x)/\W.cell? ⟨bl,o+(k-1)*2+1,none⟩=some (.int .i64 q.y)):=fun h0=>by
    have hq:k-1<l.length:=by omega
    have e1:=fun W (h:aB w W)=>aL Pt.cells_len h hS hc hq
    exact⟨l[k-1],HOK.out _ (List.getElem_mem hq),List.getElem?_eq_getElem hq,fun W h=>⟨e1 W h 0 _ rfl,e1 W h 1 _ rfl⟩⟩
   have IN:=Lh fun W (R:Ending->World->Prop) hR=>qL (l[k]'hlt) lo hi W (R:=R) hR
   generalize (l[k]'hlt)=p at*;have AT:=Lh fun W (R:Ending->World->Prop) hR=>xQ p W PO (R:=R) hR
   have SP:=Lh (stepQ_at (lo:=lo) (hi:=hi) HP.out)
   have E0:Hid (∀ W,aB w W->W.cell? ⟨bl,o+k*2,none⟩=some (.int .i64 p.x)/\W.cell? ⟨bl,o+k*2+1,none⟩=some (.int .i64 p.y)):=fun W h=>⟨e0 W h 0 _ rfl,e0 W h 1 _ rfl⟩
   generalize hbi:p.inside lo hi=bi at*;have HBI:=Lh hbi;have HPO:=Lh PO;clear e0 hc k4 k3 PO hbi;unfold Pt.cells at IN AT;have ST:=Lh hst.out;have GZ:=Lh hst.out.gr;clear hst
   by_cases hk0:k=0
   ·subst hk0
    have E0:Hid (∀ W,aB w W->W.cell? ⟨bl,o,none⟩=some (.int .i64 p.x)/\W.cell? ⟨bl,o+1,none⟩=some (.int .i64 p.y)):=fun W h=>by simpa only[Nat.zero_mul,Nat.add_zero] using E0.out W h
    obtain⟨x0,x1⟩:=E0.out _ GZ.out;go_wp2_with fail
    go_at_call 36;refine IN.out _ _ ?_;intro w1 hg1;have ST:=Lh (ST.out.tr hg1);have GZ:=Lh ST.out.gr;clear hg1 x0 x1
    cases bi with
    |false=>
     have EQ:Hid (gT l lo hi (part.map PV.q) 0=part.map PV.q):=by
      show _=_;unfold gT;rw[HP.out];dsimp only;rw[if_pos rfl,if_neg (by rw[HBI.out];decide)]
     have GZ:=Lh ST.out.gr;obtain⟨x0,x1⟩:=E0.out _ GZ.out;go_wp2_with fail
     go_at_call 36;refine IN.out _ _ ?_;intro w9 hg9;have ST:=Lh (ST.out.tr hg9);clear hg9 x0 x1
     by_cases hpe:part=[]
     ·have t3:(part).length=0:=by rw[hpe];rfl
      have EF:Hid ((RQ rows,([]:List PV).map PV.q)=bT l lo hi (0+1)):=by
       show _=_;rw[SQ.out,SP.out,if_pos (.inl (by first|rfl|trivial)),EQ.out];unfold flQ;rw[hpe];simp
      have STN:=Lh ST.out.clr;go_wp2;go_roundw
      case rel=>exact⟨0+1,rows,[],by omega,by go_num,EF.out,STN.out⟩
      case measure=>simp[intOf];omega
     ·have t3:0<(part).length:=List.length_pos_iff.2 hpe
      have EF:Hid ((RQ (rows++[⟨(.slice aq part.length cq),part⟩]),([]:List PV).map PV.q)=bT l lo hi (0+1)):=by
       show _=_;rw[SQ.out,SP.out,if_pos (.inl (by first|rfl|trivial)),EQ.out];unfold flQ RQ;simp[hpe]
      have HPE:=Lh hpe;clear hpe;go_wp2_with (at_builtin;refine aM rfl _ _ rfl nX (aJ ST.out.op (aB.refl _)) rfl 1 _ rfl _ rfl (by decide) rfl (by simp[Value.oneCell']) (by have:=LN.out;omega) ST.out.gr ⟨Nat.le_refl _,ST.out.gr.size⟩ ?_;intro v5 w5 hO5 hg5 hgr5 hb5;obtain⟨A5,c5',rfl⟩:=aH hO5;have STF:=Lh (ST.out.fin hgr5 hO5 (hb5.elim .inl fun h=>.inr ⟨_,h,Nat.le_succ _⟩));clear hO5 hg5 hgr5 hb5)
      go_roundw
      case rel=>exact⟨0+1,_,[],by omega,by go_num,EF.out,STF.out⟩
      case measure=>simp[intOf];omega
    |true=>
     obtain⟨x0,x1⟩:=E0.out _ GZ.out;go_wp2_with fail
     go_at_call 61;refine AT.out _ _ ?_;intro r w2 hg2 hrq hrr
     have EQ:Hid (gT l lo hi (part.map PV.q) 0=[r].map PV.q):=by
      show _=_;unfold gT;rw[HP.out];dsimp only;rw[if_pos rfl,if_pos HBI.out,List.map_cons,List.map_nil,hrq]
     have STN:=Lh ((ST.out.tr hg2).new r ((hrr.into fun b hb=>ST.out.off hb).up (by omega)));clear hg2 hrq hrr x0 x1 AT;obtain⟨⟨⟨a1,a2,a3,a4⟩,⟨a5,a6,a7,a8⟩,aq⟩,⟨⟨b1,b2,b3,b4⟩,⟨b5,b6,b7,b8⟩,bq⟩⟩:=r;unfold PV.cells at STN ⊢;dsimp only at STN ⊢;go_upto_region 8 with fail
     have ST:=Lh STN.out;clear STN;generalize w2.alloc (.cells #[.bool a1,.slice a2 a3 a4,.bool a5,.slice a6 a7 a8,.bool b1,.slice b2 b3 b4,.bool b5,.slice b6 b7 b8] 113)=w3 at*;generalize w2.heap.size=gb at*;have GZ:=Lh ST.out.gr;obtain⟨x0,x1⟩:=E0.out _ GZ.out;go_wp2_with fail
     go_at_call 36;refine IN.out _ _ ?_;intro w9 hg9;have ST:=Lh (ST.out.tr hg9);clear hg9 x0 x1;have tw:=TW.out;have tq:=TQ.out
     cases lst with
     |true=>
      go_upto_region 13 with fail
      clear tw tq;have hpe:¬ [(⟨(⟨⟨a1,a2,a3,a4⟩,⟨a5,a6,a7,a8⟩,aq⟩:RV),(⟨⟨b1,b2,b3,b4⟩,⟨b5,b6,b7,b8⟩,bq⟩:RV)⟩:PV)]=[]:=by simp
      have t3:0<([(⟨(⟨⟨a1,a2,a3,a4⟩,⟨a5,a6,a7,a8⟩,aq⟩:RV),(⟨⟨b1,b2,b3,b4⟩,⟨b5,b6,b7,b8⟩,bq⟩:RV)⟩:PV)]).length:=List.length_pos_iff.2 hpe
      have EF:Hid ((RQ (rows++[⟨(.slice (some ⟨gb,0,none⟩) 1 1),[(⟨(⟨⟨a1,a2,a3,a4⟩,⟨a5,a6,a7,a8⟩,aq⟩:RV),(⟨⟨b1,b2,b3,b4⟩,⟨b5,b6,b7,b8⟩,bq⟩:RV)⟩:PV)]⟩]),([]:List PV).map PV.q)=bT l lo hi (0+1)):=by
       show _=_;rw[SQ.out,SP.out,if_pos (.inr (of_decide_eq_true TL.out.symm)),EQ.out];unfold flQ RQ;simp
      have HPE:=Lh hpe;clear hpe;go_wp2_with (at_builtin;refine aM rfl _ _ rfl nX (aJ ST.out.op (aB.refl _)) rfl 1 _ rfl _ rfl (by decide) rfl (by simp[Value.oneCell']) (by have:=LN.out;omega) ST.out.gr ⟨Nat.le_refl _,ST.out.gr.size⟩ ?_;intro v5 w5 hO5 hg5 hgr5 hb5;obtain⟨A5,c5',rfl⟩:=aH hO5;have STF:=Lh (ST.out.fin hgr5 hO5 (hb5.elim .inl fun h=>.inr ⟨_,h,Nat.le_succ _⟩));clear hO5 hg5 hgr5 hb5)
      go_roundw
      case rel=>exact⟨0+1,_,[],by omega,by go_num,EF.out,STF.out⟩
      case measure=>simp[intOf];omega
     |false=>
      have EF:Hid ((RQ rows,([(⟨(⟨⟨a1,a2,a3,a4⟩,⟨a5,a6,a7,a8⟩,aq⟩:RV),(⟨⟨b1,b2,b3,b4⟩,⟨b5,b6,b7,b8⟩,bq⟩:RV)⟩:PV)]).map PV.q)=bT l lo hi (0+1)):=by
       show _=_;rw[SQ.out,SP.out,if_neg (by have:=of_decide_eq_false TL.out.symm;simpa using this),EQ.out]
      go_wp2;go_roundw
      case rel=>exact⟨0+1,rows,[(⟨(⟨⟨a1,a2,a3,a4⟩,⟨a5,a6,a7,a8⟩,aq⟩:RV),(⟨⟨b1,b2,b3,b4⟩,⟨b5,b6,b7,b8⟩,bq⟩:RV)⟩:PV)],by omega,by go_num,EF.out,ST.out⟩
      case measure=>simp[intOf];omega
   ·obtain⟨q,qok,hq,hqc⟩:=PK.out (by omega)
    obtain⟨km,hkm⟩:∃ km,km=k-1:=⟨_,rfl⟩
    rw[<-hkm] at hq hqc
    have KW:Hid (IntKind.i64.wrap ((k:Int)-1)=(km:Int)/\km<l.length):=⟨by rw[IntWalk.i64_in _ (by omega)];omega,by omega⟩
    have t0:((k:Int)==0)=false:=by rw[beq_eq_false_iff_ne];omega
    have t1:0<k:=by omega
    have EP:Hid (gT l lo hi (part.map PV.q) k=if (bZ q p lo hi).2.2=true then gK (gK (part.map PV.q) (bZ q p lo hi).1) (bZ q p lo hi).2.1 else part.map PV.q):=by
     show _=_;unfold gT;rw[HP.out];dsimp only;rw[if_neg hk0,<-hkm,hq]
    have SG:=Lh fun W (R:Ending->World->Prop) hR=>segment_q q p lo hi W qok HPO.out HI.out.1 HI.out.2 (R:=R) hR
    have HQC:=Lh hqc;clear hk0 hkm hq hqc qok PK AT;generalize (bZ q p lo hi).1=qa at*;generalize (bZ q p lo hi).2.1=qb at*;generalize (bZ q p lo hi).2.2=sok at*;unfold Pt.cells at SG;go_upto_region 9 with fail
    clear t0 t1;refine dW ⟨16,some 10,113,aU.cells.toArray⟩ ⟨17,some 11,113,aU.cells.toArray⟩ 20 [0,1,2,3,4,5,6,7,8,9,10,11,12,13,14,15] [18,19] (by kernel_rfl) (by kernel_rfl) (by decide) ⟨_,rfl,rfl,rfl,fun a W K h=>by go_simp;exact h⟩ ⟨_,rfl,rfl,rfl,fun a W K h=>by go_simp;exact h⟩ (by intro c a d v w h;cases d<;>exact h) u10 u11 rfl rfl ?_;have GD:Hid (aB wr wr.drew):=(aB.refl _).dr;generalize wr.drew=wb at*
    iterate 11
     apply bX;exact rfl;(simp);(simp);(intro x1 x2;exact rfl)
     ·intro x1 x2 W' hW
      obtain⟨y0,y1⟩:=E0.out W' (GZ.out.tr (GD.out.tr hW));obtain⟨z0,z1⟩:=HQC.out W' (GZ.out.tr (GD.out.tr hW));obtain⟨q1,q2⟩:=KW.out;clear hW;simp only[FA.put2,Act.put,sA,sZ,sS]
      go_simp
      with_reducible rfl
     simp only[Act.put,sA,sZ,sS]
    apply dS;exact rfl;exact rfl;(simp);(simp);(intro x1 x2;exact rfl);intro x1 x2 W5 hW hJ K hK;simp only[FA.put2,Act.put,sA,sZ,sS]
    go_simp
    go_at_call 62;refine SG.out _ _ ?_;intro ra rb ok w5 hg5 hok hres;subst hok
    have HRES:Hid (sok=true->ra.q=qa/\rb.q=qb/\ra.rd w5 (eO (.slice ap rows.length cp) (.slice aq part.length cq)) 15/\rb.rd w5 (eO (.slice ap rows.length cp) (.slice aq part.length cq)) 15):=fun h=>by
     obtain⟨h1,h2,h3,h4⟩:=hres h;have hz:∀ b,W5.heap.size<=b->eO (.slice ap rows.length cp) (.slice aq part.length cq) b:=fun b hb=>ST.out.off (Nat.le_trans (GD.out.tr hW).size hb)
     exact⟨h1,h2,h3.into hz,h4.into hz⟩
    refine hK.out _ _ (fun W=>aB w5 W) hg5 (fun _ _ g h=>h.tr g) (aB.refl _) ?_;clear hK hW hg5 hJ hres SG;simp only[Act.put,sA,sZ,sS]
    iterate 4
     apply bX;exact rfl;(simp);(simp);(intro x1 x2;exact rfl)
     ·intro x1 x2 W' hW
      obtain⟨y0,y1⟩:=E0.out W' (GZ.out.tr (GD.out.tr hW));obtain⟨z0,z1⟩:=HQC.out W' (GZ.out.tr (GD.out.tr hW));obtain⟨q1,q2⟩:=KW.out;clear hW;simp only[FA.put2,Act.put,sA,sZ,sS]
      go_simp
      with_reducible rfl
     simp only[Act.put,sA,sZ,sS]
    refine mY ?_;intro c1 c2 V hV hJ hne hc1 hc2;have FC1:Hid (V.heap[c1]? =some (.cells aU.cells.toArray 113 (0,0))):=hc1.2;have FC2:Hid (V.heap[c2]? =some (.cells aU.cells.toArray 113 (0,0))):=hc2.2
    have N1:eI V c1:=⟨_,_,_,FC1.out,PV.noint _⟩
    have N2:eI V c2:=⟨_,_,_,FC2.out,PV.noint _⟩
    have NE:Hid (c1≠c2/\c2≠c1):=⟨hne,fun e=>hne e.symm⟩
    have L1:wb.heap.size<=c1:=hc1.1;have L2:wb.heap.size<=c2:=hc2.1
    have OC:Hid (eO (.slice ap rows.length cp) (.slice aq part.length cq) c1/\eO (.slice ap rows.length cp) (.slice aq part.length cq) c2):=⟨ST.out.off (Nat.le_trans GD.out.size L1),ST.out.off (Nat.le_trans GD.out.size L2)⟩
    have G1:aB wb (V.setRow c1 ra.cells.toArray):=aB.row hV L1 _;have G2:aB wb ((V.setRow c1 ra.cells.toArray).setRow c2 rb.cells.toArray):=G1.row L2 _;have H2:(V.setRow c1 ra.cells.toArray).heap[c2]? =some (.cells aU.cells.toArray 113 (0,0)):=(setRow_other _ _ _ _ NE.out.2).trans FC2.out;refine⟨aB wb,fun _ h=>h,hV,?_⟩;have JV:=Lh hJ;clear hV hne hc1 hc2 hJ L1 L2;unfold dG FA.put2;simp only[Act.put,sA,sZ,sS,List.drop_succ_cons,List.drop_zero]
    apply aG;exact rfl;exact rfl;exact rfl;intro K hK;refine wp_store_row 113 _ _ rfl c1 ra.cells.toArray rfl rfl 113 _ FC1.out (by kernel_rfl) rfl (PV.one _) ?_;refine hK.out _ _ G1 ?_;clear hK;simp only[Act.put];apply aG;exact rfl;exact rfl;exact rfl;intro K hK;refine wp_store_row 113 _ _ rfl c2 rb.cells.toArray rfl rfl 113 _ H2 (by kernel_rfl) rfl (PV.one _) ?_;refine hK.out _ _ G2 ?_;clear hK;simp only[Act.put];refine aK ?_
    have HRES:Hid (sok=true->ra.q=qa/\rb.q=qb/\ra.rd ((V.setRow c1 ra.cells.toArray).setRow c2 rb.cells.toArray) (eO (.slice ap rows.length cp) (.slice aq part.length cq)) 15/\rb.rd ((V.setRow c1 ra.cells.toArray).setRow c2 rb.cells.toArray) (eO (.slice ap rows.length cp) (.slice aq part.length cq)) 15):=fun h=>by
     obtain⟨h1,h2,h3,h4⟩:=HRES.out h;exact⟨h1,h2,((h3.gr JV.out).row N1 _).row (N2.row NE.out.2 _) _,((h4.gr JV.out).row N1 _).row (N2.row NE.out.2 _) _⟩
    have FC2n:=Lh (setRow_heap _ c2 _ rb.cells.toArray _ _ H2);have FC1:=Lh ((setRow_other _ c2 c1 rb.cells.toArray NE.out.1).trans (setRow_heap _ c1 _ ra.cells.toArray _ _ FC1.out));have FC2:=Lh FC2n.out;have ST:=Lh (ST.out.tr (GD.out.tr G2));clear FC2n H2 G1 G2 N1 N2 JV;generalize (V.setRow c1 ra.cells.toArray).setRow c2 rb.cells.toArray=w9 at*
    cases sok with
    |false=>
     have EQ:Hid (gT l lo hi (part.map PV.q) k=part.map PV.q):=by show _=_;rw[EP.out,if_neg (by decide)]
     clear EP FC1 FC2 HRES;go_upto_region 12 with fail
     have GZ:=Lh ST.out.gr;obtain⟨x0,x1⟩:=E0.out _ GZ.out;go_wp2_with fail
     go_at_call 36;refine IN.out _ _ ?_;intro w9 hg9;have ST:=Lh (ST.out.tr hg9);clear hg9 x0 x1
     cases bi with
     |false=>
      by_cases hpe:part=[]
      ·have t3:(part).length=0:=by rw[hpe];rfl
       have EF:Hid ((RQ rows,([]:List PV).map PV.q)=bT l lo hi (k+1)):=by
        show _=_;rw[SQ.out,SP.out,if_pos (.inl (by first|rfl|trivial)),EQ.out];unfold flQ;rw[hpe];simp
       have STN:=Lh ST.out.clr;go_wp2;go_roundw
       case rel=>exact⟨k+1,rows,[],by omega,by go_num,EF.out,STN.out⟩
       case measure=>simp[intOf];omega
      ·have t3:0<(part).length:=List.length_pos_iff.2 hpe
       have EF:Hid ((RQ (rows++[⟨(.slice aq part.length cq),part⟩]),([]:List PV).map PV.q)=bT l lo hi (k+1)):=by
        show _=_;rw[SQ.out,SP.out,if_pos (.inl (by first|rfl|trivial)),EQ.out];unfold flQ RQ;simp[hpe]
       have HPE:=Lh hpe;clear hpe;go_wp2_with (at_builtin;refine aM rfl _ _ rfl nX (aJ ST.out.op (aB.refl _)) rfl 1 _ rfl _ rfl (by decide) rfl (by simp[Value.oneCell']) (by have:=LN.out;omega) ST.out.gr ⟨Nat.le_refl _,ST.out.gr.size⟩ ?_;intro v5 w5 hO5 hg5 hgr5 hb5;obtain⟨A5,c5',rfl⟩:=aH hO5;have STF:=Lh (ST.out.fin hgr5 hO5 (hb5.elim .inl fun h=>.inr ⟨_,h,Nat.le_succ _⟩));clear hO5 hg5 hgr5 hb5)
       go_roundw
       case rel=>exact⟨k+1,_,[],by omega,by go_num,EF.out,STF.out⟩
       case measure=>simp[intOf];omega
     |true=>
      have tw:=TW.out;have tq:=TQ.out
      cases lst with
      |true=>
       go_upto_region 13 with fail
       clear tw tq
       by_cases hpe:part=[]
       ·have t3:(part).length=0:=by rw[hpe];rfl
        have EF:Hid ((RQ rows,([]:List PV).map PV.q)=bT l lo hi (k+1)):=by
         show _=_;rw[SQ.out,SP.out,if_pos (.inr (of_decide_eq_true TL.out.symm)),EQ.out];unfold flQ;rw[hpe];simp
        have STN:=Lh ST.out.clr;go_wp2;go_roundw
        case rel=>exact⟨k+1,rows,[],by omega,by go_num,EF.out,STN.out⟩
        case measure=>simp[intOf];omega
       ·have t3:0<(part).length:=List.length_pos_iff.2 hpe
        have EF:Hid ((RQ (rows++[⟨(.slice aq part.length cq),part⟩]),([]:List PV).map PV.q)=bT l lo hi (k+1)):=by
         show _=_;rw[SQ.out,SP.out,if_pos (.inr (of_decide_eq_true TL.out.symm)),EQ.out];unfold flQ RQ;simp[hpe]
        have HPE:=Lh hpe;clear hpe;go_wp2_with (at_builtin;refine aM rfl _ _ rfl nX (aJ ST.out.op (aB.refl _)) rfl 1 _ rfl _ rfl (by decide) rfl (by simp[Value.oneCell']) (by have:=LN.out;omega) ST.out.gr ⟨Nat.le_refl _,ST.out.gr.size⟩ ?_;intro v5 w5 hO5 hg5 hgr5 hb5;obtain⟨A5,c5',rfl⟩:=aH hO5;have STF:=Lh (ST.out.fin hgr5 hO5 (hb5.elim .inl fun h=>.inr ⟨_,h,Nat.le_succ _⟩));clear hO5 hg5 hgr5 hb5)
        go_roundw
        case rel=>exact⟨k+1,_,[],by omega,by go_num,EF.out,STF.out⟩
        case measure=>simp[intOf];omega
      |false=>
       have EF:Hid ((RQ rows,(part).map PV.q)=bT l lo hi (k+1)):=by
        show _=_;rw[SQ.out,SP.out,if_neg (by have:=of_decide_eq_false TL.out.symm;simpa using this),EQ.out]
       go_wp2;go_roundw
       case rel=>exact⟨k+1,rows,part,by omega,by go_num,EF.out,ST.out⟩
       case measure=>simp[intOf];omega
    |true=>
     obtain⟨ha1,ha2,ha3,ha4⟩:=HRES.out rfl
     have EQ:Hid (gT l lo hi (part.map PV.q) k=(dN (dN part ra) rb).map PV.q):=by
      show _=_;rw[EP.out,if_pos rfl,putP_q,putP_q,ha1,ha2]
     go_upto_region 11 with fail
     have GN:=Lh ((aB.refl w9).dr);have RA:=Lh (ha3.gr GN.out);have RB:=Lh (ha4.gr GN.out);have FC1:=Lh (aC GN.out FC1.out);have FC2:=Lh (aC GN.out FC2.out);have ST:=Lh (ST.out.tr GN.out);clear ha1 ha2 ha3 ha4 HRES EP GN;refine aE (fun W=>W.heap[c1]? =some (.cells ra.cells.toArray 113 (0,0))/\W.heap[c2]? =some (.cells rb.cells.toArray 113 (0,0))) (⟨FC1.out,FC2.out⟩) 4 [0,1,3,2] (by kernel_rfl) (by kernel_rfl) (by intro c a d v w h;cases d<;>exact h) ?_
     iterate 1 (apply aD;exact rfl;exact rfl;(intro W hW;(try clear hW);go_simp;with_reducible rfl);try simp only[Act.put,sA,sZ,sS])
     apply aD;exact rfl;exact rfl;(intro W hW;exact aP 113 _ rfl c1 rfl 113 _ _ _ hW.1 rfl Tryz.underlying113 (by kernel_rfl))
     try simp only[Act.put,sA,sZ,sS]
     apply aD;exact rfl;exact rfl;(intro W hW;exact aP 113 _ rfl c2 rfl 113 _ _ _ hW.2 rfl Tryz.underlying113 (by kernel_rfl))
     try simp only[Act.put,sA,sZ,sS]
     generalize w9.drew=wc at*;apply aG;exact rfl;exact rfl;exact rfl;intro K hK;go_simp;go_at_call 63;refine vS part ra 15 (eO (.slice ap rows.length cp) (.slice aq part.length cq)) _ w wc ST.out.gr ST.out.oq (by have:=LN.out;omega) RA.out ST.out.pvals (by omega) ?_;intro v6 w6 hO6 hgr6 hf6;refine hK.out _ _ ⟨(hgr6.block c1 (lt_of_block FC1.out) OC.out.1.2).trans FC1.out,(hgr6.block c2 (lt_of_block FC2.out) OC.out.2.2).trans FC2.out⟩ ?_
     have ST1:=Lh (ST.out.put hgr6 hO6 hf6 (fun x hx=>(wB hx).elim (fun h=>ST.out.pvals x h) fun h=>by rw[h];exact RA.out));have RB:=Lh ((RB.out.both.by_ hgr6 (fun b hb=>hb.1.2)).into (T:=eO (.slice ap rows.length cp) v6) fun b hb=>⟨hb.1.1,hf6.off hb.2 hb.1.2⟩);have PL1:Hid ((dN part ra).length<=2*k+1):=by show _<=_;have:=putP_len part ra;have:=LN.out;omega
     obtain⟨A6,c6,rfl⟩:=aH hO6;clear hK hO6 hgr6 hf6 FC1 FC2 ST RA
     try simp only[Act.put,sA,sZ,sS]
     refine aK ?_;simp only[List.drop_succ_cons,List.drop_zero];go_wp2_with fail
     go_at_call 63;refine vS (dN part ra) rb 15 (eO (.slice ap rows.length cp) (.slice A6 (dN part ra).length c6)) _ w w6 ST1.out.gr ST1.out.oq (by have:=PL1.out;omega) RB.out ST1.out.pvals (by omega) ?_;intro v7 w7 hO7 hgr7 hf7;have ST:=Lh (ST1.out.put hgr7 hO7 hf7 (fun x hx=>(wB hx).elim (fun h=>ST1.out.pvals x h) fun h=>by rw[h];exact RB.out));obtain⟨A7,c7,rfl⟩:=aH hO7;clear hO7 hgr7 hf7 ST1 RB PL1;go_upto_region 12 with fail
     have GZ:=Lh ST.out.gr;obtain⟨x0,x1⟩:=E0.out _ GZ.out;go_wp2_with fail
     go_at_call 36;refine IN.out _ _ ?_;intro w9 hg9;have ST:=Lh (ST.out.tr hg9);clear hg9 x0 x1
     cases bi with
     |false=>
      by_cases hpe:(dN (dN part ra) rb)=[]
      ·have t3:((dN (dN part ra) rb)).length=0:=by rw[hpe];rfl
       have EF:Hid ((RQ rows,([]:List PV).map PV.q)=bT l lo hi (k+1)):=by
        show _=_;rw[SQ.out,SP.out,if_pos (.inl (by first|rfl|trivial)),EQ.out];unfold flQ;rw[hpe];simp
       have STN:=Lh ST.out.clr;go_wp2;go_roundw
       case rel=>exact⟨k+1,rows,[],by omega,by go_num,EF.out,STN.out⟩
       case measure=>simp[intOf];omega
      ·have t3:0<((dN (dN part ra) rb)).length:=List.length_pos_iff.2 hpe
       have EF:Hid ((RQ (rows++[⟨(.slice A7 (dN (dN part ra) rb).length c7),(dN (dN part ra) rb)⟩]),([]:List PV).map PV.q)=bT l lo hi (k+1)):=by
        show _=_;rw[SQ.out,SP.out,if_pos (.inl (by first|rfl|trivial)),EQ.out];unfold flQ RQ;simp[hpe]
       have HPE:=Lh hpe;clear hpe;go_wp2_with (at_builtin;refine aM rfl _ _ rfl nX (aJ ST.out.op (aB.refl _)) rfl 1 _ rfl _ rfl (by decide) rfl (by simp[Value.oneCell']) (by have:=LN.out;omega) ST.out.gr ⟨Nat.le_refl _,ST.out.gr.size⟩ ?_;intro v5 w5 hO5 hg5 hgr5 hb5;obtain⟨A5,c5',rfl⟩:=aH hO5;have STF:=Lh (ST.out.fin hgr5 hO5 (hb5.elim .inl fun h=>.inr ⟨_,h,Nat.le_succ _⟩));clear hO5 hg5 hgr5 hb5)
       go_roundw
       case rel=>exact⟨k+1,_,[],by omega,by go_num,EF.out,STF.out⟩
       case measure=>simp[intOf];omega
     |true=>
      have tw:=TW.out;have tq:=TQ.out
      cases lst with
      |true=>
       go_upto_region 13 with fail
       clear tw tq
       by_cases hpe:(dN (dN part ra) rb)=[]
       ·have t3:((dN (dN part ra) rb)).length=0:=by rw[hpe];rfl
        have EF:Hid ((RQ rows,([]:List PV).map PV.q)=bT l lo hi (k+1)):=by
         show _=_;rw[SQ.out,SP.out,if_pos (.inr (of_decide_eq_true TL.out.symm)),EQ.out];unfold flQ;rw[hpe];simp
        have STN:=Lh ST.out.clr;go_wp2;go_roundw
        case rel=>exact⟨k+1,rows,[],by omega,by go_num,EF.out,STN.out⟩
        case measure=>simp[intOf];omega
       ·have t3:0<((dN (dN part ra) rb)).length:=List.length_pos_iff.2 hpe
        have EF:Hid ((RQ (rows++[⟨(.slice A7 (dN (dN part ra) rb).length c7),(dN (dN part ra) rb)⟩]),([]:List PV).map PV.q)=bT l lo hi (k+1)):=by
         show _=_;rw[SQ.out,SP.out,if_pos (.inr (of_decide_eq_true TL.out.symm)),EQ.out];unfold flQ RQ;simp[hpe]
        have HPE:=Lh hpe;clear hpe;go_wp2_with (at_builtin;refine aM rfl _ _ rfl nX (aJ ST.out.op (aB.refl _)) rfl 1 _ rfl _ rfl (by decide) rfl (by simp[Value.oneCell']) (by have:=LN.out;omega) ST.out.gr ⟨Nat.le_refl _,ST.out.gr.size⟩ ?_;intro v5 w5 hO5 hg5 hgr5 hb5;obtain⟨A5,c5',rfl⟩:=aH hO5;have STF:=Lh (ST.out.fin hgr5 hO5 (hb5.elim .inl fun h=>.inr ⟨_,h,Nat.le_succ _⟩));clear hO5 hg5 hgr5 hb5)
        go_roundw
        case rel=>exact⟨k+1,_,[],by omega,by go_num,EF.out,STF.out⟩
        case measure=>simp[intOf];omega
      |false=>
       have EF:Hid ((RQ rows,((dN (dN part ra) rb)).map PV.q)=bT l lo hi (k+1)):=by
        show _=_;rw[SQ.out,SP.out,if_neg (by have:=of_decide_eq_false TL.out.symm;simpa using this),EQ.out]
       go_wp2;go_roundw
       case rel=>exact⟨k+1,rows,(dN (dN part ra) rb),by omega,by go_num,EF.out,ST.out⟩
       case measure=>simp[intOf];omega
  ·obtain rfl:k=l.length:=by omega
   have EV:Hid (RQ rows=oO l lo hi):=by show _=_;unfold oO;rw[<-hct.out]
   have ST:=Lh hst.out;clear hst hct k4;go_wp2;exact HR.out _ rows _ ST.out.op EV.out (fun x hx=>⟨(ST.out.each x hx).into fun _ _=>trivial,fun p hp=>(ST.out.vals x hx p hp).into fun _ _=>trivial⟩) ST.out.gr
end Go.Proofs.YtjalimkajcjapaaGreatDoor
