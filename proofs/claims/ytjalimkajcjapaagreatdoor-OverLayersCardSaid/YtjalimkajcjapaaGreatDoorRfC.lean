import Derived.Test.YtjalimkajcjapaaGreatDoorRfBA
namespace Go.Proofs.YtjalimkajcjapaaGreatDoor
set_option maxRecDepth 100000
open Go.RowKit Go.Lib B
set_option maxHeartbeats 16000000 in
theorem yI (A:List aI)(a:Value)(z:Zm)(e:Int)(S S':Nat->Prop)(w:World)(ha:Rd w S 1 a A.length (A.map aI.v))(hA:∀ r∈A,r.rd w S')(hl:A.length<=400/\∀ r∈A,r.l.length<=400)(hz:aS z e=true)
  (hin:∀ r∈A,∀ p∈r.l,(-1048576<=p.x/\p.x<=1048576)/\-1048576<=p.y/\p.y<=1048576) {R:Ending->World->Prop}
  (hR:∀ r rows w',w'.ownsRow w.heap.size 58 1 r rows.length (rows.map aI.v)->dF w.heap.size w' r rows->rows.map aI.l=iC z e (A.map aI.l)->aB w w'->R (.returned r) w'):
  Calls Tryz.prog 40 #[a,.agg z.cells.toArray,.int .i64 e] w R:=by
 have HR:=Lh hR;have ha:=ha.lt (by decide);have HA0:=Lh ha;have HA:=Lh hA;have HL:=Lh hl;have HZ:=Lh hz;have AIN:=Lh hin;obtain⟨r1,r2,r3,r4,r5,r6,r7,r8,r9,r10⟩:=bA hz;have w1':IntKind.i64.wrap (-z.b)=-z.b:=IntWalk.i64_in _ (by omega);have w2':IntKind.i64.wrap (e+z.b)=e+z.b:=IntWalk.i64_in _ (by omega);have LOHI:=Lh (And.intro w1' w2')
 have LH:Hid (I64 (-z.b)/\I64 (e+z.b)/\-1000000<=-z.b/\e+z.b<=1000000):=by
  show _/\_/\_;unfold I64;omega
 clear hR hA hl hz hin w1' w2' r1 r2 r3 r4 r5 r6 r7 r8 r9 r10;obtain⟨_,pA,pc,rfl,p1,p2,-,p4⟩:=ha;unfold maxLen at p2
 obtain⟨wa,hwa⟩:∃ wa,wa=w.alloc (.cells z.cells.toArray 26):=⟨_,rfl⟩
 have GA:Hid (aB w wa):=by subst hwa;exact(aB.refl _).al _
 have BZ:Hid (wa.heap[w.heap.size]? =some (.cells z.cells.toArray 26 (0,0))):=by subst hwa;exact heap_alloc_new w _
 go_enter Tryz.func40,Tryz.ntmps40
 go_upto_region 1 with fail
 rw[<-hwa];clear hwa;refine aE (aB wa.drew) ((aB.refl _)) 8 [0,1,2,3,4,5,6,7] (by kernel_rfl) (by kernel_rfl) (by intro c a d v w h;cases d<;>exact h) ?_;have GD:=Lh ((aB.refl wa).dr);have BZ:=Lh (aC GD.out BZ.out);have GA:=Lh (GA.out.tr GD.out);clear GD;generalize wa.drew=wb at*;have ZC:Hid (∀ W,aB wb W->W.cell? ⟨w.heap.size,3,none⟩=some (.int .i64 z.b)):=fun W hW=>by rw[cell_of_row _ _ _ _ _ _ (aC hW BZ.out)];rfl
 iterate 8 (apply aD;exact rfl;exact rfl;(intro W hW;have z3:=ZC.out W hW;(try clear hW);go_simp;with_reducible rfl);try simp only[Act.put,sA,sZ,sS])
 refine aK ?_;simp only[List.drop_succ_cons,List.drop_zero];clear ZC;go_upto_region 3 with fail
 simp only[LOHI.out.1,LOHI.out.2];clear LOHI;go_wp2_with fail
 go_at_call 66;refine vV A _ _ _ wb (HA0.out.gr (by decide) GA.out) (fun r hr=>(HA.out r hr).gr2 (by decide) GA.out) (by have:=HL.out.1;omega) ?_;intro gs G wg hGr hGl hgg;have BZ:=Lh (aC hgg BZ.out);have GA:=Lh (GA.out.tr hgg)
 have GLn:Hid (∀ g∈G,g.l.length<=400/\∀ i∈g.l,i<A.length):=fun g hg=>by
  have hm:g.l∈G.map cE.l:=List.mem_map_of_mem hg;rw[hGl] at hm;have h2:=(iG (eB A) A.length).2 g.l hm;have h3:=lF (eB A) A.length g.l hm;have h4:=HL.out.1;exact⟨by omega,h3⟩
 have GN:Hid (G.length<=400):=by
  show _<=_;have:=congrArg List.length hGl;rw[List.length_map] at this;have:=(iG (eB A) A.length).1;have:=HL.out.1;omega
 obtain⟨rl,hrl⟩:∃ rl:Nat->List Pt,rl=fun i=>jZ z e ((A.map aI.l).getD i []):=⟨_,rfl⟩
 obtain⟨okf,hokf⟩:∃ okf:Nat->Bool,okf=fun i=>kM z e ((A.map aI.l).getD i []):=⟨_,rfl⟩
 have PE:Hid ((G.map cE.l).flatMap (gL rl okf)=iC z e (A.map aI.l)):=by
  show _=_;rw[hGl];unfold iC;rw[List.length_map];show _=((aX (eB A) A.length).1).flatMap _;congr 1
  funext g
  exact qP (fun i _=>by rw[hrl]) (fun i _=>by rw[hokf])
 have AT:Hid (∀ i (h:i<A.length),rl i=jZ z e (A[i]'h).l/\okf i=kM z e (A[i]'h).l):=fun i h=>by
  rw[hrl,hokf];simp only[List.getD_eq_getElem?_getD,List.getElem?_map,List.getElem?_eq_getElem h,Option.map_some,Option.getD_some];exact⟨by first|rfl|trivial,by first|rfl|trivial⟩
 have RG:=Lh (Rd.own_lt hGr.out);have RE:Hid (∀ g∈G,Rd wg (·<wg.heap.size) 1 g.v g.l.length (Ns g.l)):=fun g hg=>Rd.own_lt (hGr.each g hg).1
 have hRG:=RG.out;clear hGr hGl hgg hrl hokf;obtain⟨_,gA,gc,rfl,q1,q2,-,q4⟩:=hRG;unfold maxLen at q2;go_wp2_with fail
 go_loopw [12,9] (fun i s wr=>∃ (k:Nat) (rows:List aI),k<=G.length/\i=.int .i64 k/\wr.ownsRow wg.heap.size 58 1 s rows.length (rows.map aI.v)/\Hid (dF wg.heap.size wr s rows)/\Hid (rows.map aI.l=((G.take k).map cE.l).flatMap (gL rl okf))/\Hid (rows.length<=401*k)/\Hid (aB wg wr)) (fun i _ _=>G.length-(Go.RowKit.intOf i).toNat)
 case atStart=>exact⟨0,[],Nat.zero_le _,rfl,World.ownsRow_nil _ _ _ _,fun r hr=>by simp at hr,rfl,Nat.zero_le _,aB.refl _⟩
 case round=>
  obtain⟨kk,rows,hK,rfl,hown,hin,hls,hrn,hgw⟩:=hrel;obtain⟨ap,cp,rfl⟩:=aH hown
  by_cases hlt:kk<G.length
  ·obtain⟨gb,go,rfl,-,-⟩:=q4 (by omega)
   have GC:Hid (∀ W,aB wg W->W.cell? ⟨gb,go+kk,none⟩=some (G[kk]'hlt).v):=fun W hW=>by
    have:=bH hW RG.out rfl (i:=kk) (by simpa using hlt);rw[List.getElem_map] at this;exact this
   have r1:=RE.out (G[kk]'hlt) (List.getElem_mem hlt);have RLT:=Lh (GLn.out (G[kk]'hlt) (List.getElem_mem hlt))
   have LS:Hid (∀ m,gL rl okf (G[kk]'hlt).l=m->((G.take (kk+1)).map cE.l).flatMap (gL rl okf)=((G.take kk).map cE.l).flatMap (gL rl okf)++m):=by
    rintro m rfl;rw[List.take_succ_eq_append_getElem hlt,List.map_append,List.flatMap_append];simp
   clear q4;generalize G[kk]'hlt=gr at*;obtain⟨gv1,gl⟩:=gr;dsimp only at*;have R1:=Lh r1;obtain⟨_,gA1,gc1,rfl,x1,x2,-,x4⟩:=r1;unfold maxLen at x2;have HO:=Lh hown;have HRN:=Lh hrn.out;clear hown hrn;go_wp2_with fail
   go_loopw [13,9] (fun i s wr=>∃ (k:Nat) (rows2:List aI),k<=gl.length/\i=.int .i64 k/\wr.ownsRow wg.heap.size 58 1 s rows2.length (rows2.map aI.v)/\Hid (dF wg.heap.size wr s rows2)/\Hid (rows2.map aI.l=rows.map aI.l++((gl.take k).filter okf).map rl)/\Hid (0<k->∀ h0:0<gl.length,okf gl[0]=true)/\Hid (rows2.length<=rows.length+k)/\Hid (aB wg wr)) (fun i _ _=>gl.length-(Go.RowKit.intOf i).toNat)
   case atStart=>exact⟨0,rows,Nat.zero_le _,rfl,HO.out,hin.out,by show _=_;rw[List.take_zero];simp,fun h=>by omega,Nat.le_refl _,hgw.out⟩
   case round=>
    obtain⟨k,rows2,hk,rfl,hown2,hin2,hls2,hfst,hrn2,hgw2⟩:=hrel;obtain⟨ap2,cp2,rfl⟩:=aH hown2;have gcell:=GC.out _ hgw2.out
    by_cases hlt2:k<gl.length
    ·obtain⟨gb1,go1,rfl,-,-⟩:=x4 (by omega)
     have c2:wr.cell? ⟨gb1,go1+k,none⟩=some (.int .i64 ((gl[k]'hlt2:Nat):Int)):=by
      have:=bH hgw2.out R1.out rfl (i:=k) (by simpa [Ns] using hlt2);simp only[Ns,List.getElem_map] at this;exact this
     have ilt:gl[k]'hlt2<A.length:=RLT.out.2 _ (List.getElem_mem hlt2);have FS:=Lh (sP (rl:=rl) (ok:=okf) hlt2)
     have F0:Hid (k=0->okf (gl[k]'hlt2)=false->gL rl okf gl=[]):=by
      rintro rfl h;exact grpG_no (by omega) h
     have F1:Hid (okf (gl[k]'hlt2)=true∨0<k->0<k+1->∀ h0:0<gl.length,okf gl[0]=true):=by
      rintro(h|h)-h0
      ·rcases Nat.eq_zero_or_pos k with rfl|h1
       ·exact h
       ·exact hfst.out h1 h0
      ·exact hfst.out h h0
     clear x4;generalize gl[k]'hlt2=ix at*;obtain⟨pb,po,rfl,-,-⟩:=p4 (by omega)
     have c3:wr.cell? ⟨pb,po+ix,none⟩=some (A[ix]'ilt).v:=by
      have:=bH (GA.out.tr hgw2.out) HA0.out rfl (i:=ix) (by simpa using ilt);rw[List.getElem_map] at this;exact this
     have q1:=HA.out (A[ix]'ilt) (List.getElem_mem ilt);have QL:=Lh (HL.out.2 (A[ix]'ilt) (List.getElem_mem ilt));have QI:=Lh (AIN.out (A[ix]'ilt) (List.getElem_mem ilt));have AT1:=Lh (AT.out ix ilt);have HO2:=Lh hown2;clear p4 hown2;generalize A[ix]'ilt=q at*;obtain⟨v,l⟩:=q;unfold aI.rd at q1;dsimp only at*;have q1:=(q1.lt (by decide)).gr (by decide) (GA.out.tr hgw2.out);have Q1:=Lh q1;obtain⟨_,vA,vc,rfl,-,-,-,-⟩:=q1
     have RLE:Hid (rl ix=bU ((dO (l.map (scl z e)) (-z.b) (e+z.b)).map fN) true):=AT1.out.1.trans (ringL_q HZ.out QI.out)
     have OKE:Hid (okf ix=(decide (3<=(rl ix).length)&&decide (dM (bP (rl ix))=dM (bP l)))):=by
      show _=_;rw[AT1.out.2,AT1.out.1];rfl
     have SOK:Hid (∀ p∈l.map (scl z e),p.ok):=fun p hp=>by
      obtain⟨q,hq,rfl⟩:=List.mem_map.1 hp;exact yG HZ.out (QI.out q hq).1 (QI.out q hq).2
     clear AT1;go_upto_region 11 with fail
     clear c2 c3 gcell;have BZ1:=Lh (aC hgw2.out BZ.out);go_wp2_with (refine wpList_load_row rfl 26 _ rfl w.heap.size rfl 26 _ _ _ BZ1.out Tryz.underlying26 rfl (by kernel_rfl) ?_)
     go_at_call 35;refine iR z e l _ _ wr Q1.out (by have:=QL.out;omega) HZ.out QI.out ?_;intro s1 w1 hO1 hg1;have HO2:=Lh (aJ HO2.out hg1);have IN2:=Lh (hin2.out.grow hg1);have GW2:=Lh (hgw2.out.tr hg1);have Q1:=Lh (Q1.out.gr2 (by decide) hg1)
     have RS1:Hid (Rd w1 (fun b=>some b=s1.ownBlock) 2 s1 (l.map (scl z e)).length (Pts (l.map (scl z e)))):=by
      have:=Rd.own hO1;rw[List.length_map];exact this
     clear hO1 hg1 hin2 hgw2 BZ1;go_wp2_with fail
     go_at_call 67;refine vZ (l.map (scl z e)) (-z.b) (e+z.b) _ _ w1 RS1.out (by rw[List.length_map];have:=QL.out;omega) SOK.out LH.out.1 LH.out.2.1 ?_;intro s2 m2 w2 hO2 hq2 hm2 hg2;have HO2:=Lh (aJ HO2.out hg2);have IN2:=Lh (IN2.out.grow hg2);have GW2:=Lh (GW2.out.tr hg2);have Q1:=Lh (Q1.out.gr2 (by decide) hg2);have RS2:=Lh (Rd.own hO2);have VM2:=Lh hm2;have QM2:=Lh hq2
     have INM:Hid (∀ p∈m2,(((-z.b:Int):Rat)<=p.q.x/\p.q.x<=((e+z.b:Int):Rat))/\((-z.b:Int):Rat)<=p.q.y/\p.q.y<=((e+z.b:Int):Rat)):=fun p hp=>by
      have:p.q∈dO (l.map (scl z e)) (-z.b) (e+z.b):=by rw[<-hq2];exact List.mem_map_of_mem hp
      have:=cring_in _ this;exact⟨⟨this.1,this.2.1⟩,this.2.2.1,this.2.2.2⟩
     have LM2:Hid (m2.length<=100000):=by
      show _<=_;have h1:=congrArg List.length hq2;rw[List.length_map] at h1;have h2:=xN (l.map (scl z e)) (-z.b) (e+z.b);rw[List.length_map] at h2;have:=QL.out;omega
     clear hO2 hq2 hm2 hg2 RS1;go_wp2_with fail
     go_at_call 38;refine mQ m2 7256 (-z.b) (e+z.b) _ _ _ w2 RS2.out VM2.out (by decide) LM2.out LH.out.2.2.1 LH.out.2.2.2 INM.out ?_;intro s3 w3 hO3 hg3;have HO2:=Lh (aJ HO2.out hg3);have IN2:=Lh (IN2.out.grow hg3);have GW2:=Lh (GW2.out.tr hg3);have Q1:=Lh (Q1.out.gr2 (by decide) hg3)
     have ME:Hid (m2.map (fun p=>fN p.q)=(dO (l.map (scl z e)) (-z.b) (e+z.b)).map fN):=by
      show _=_;rw[<-QM2.out,List.map_map];rfl
     have RS3:Hid (Rd w3 (fun b=>some b=s3.ownBlock) 2 s3 ((dO (l.map (scl z e)) (-z.b) (e+z.b)).map fN).length (Pts ((dO (l.map (scl z e)) (-z.b) (e+z.b)).map fN))):=by
      have:=Rd.own hO3;rw[<-ME.out,List.length_map];exact this
     have LM3:Hid (((dO (l.map (scl z e)) (-z.b) (e+z.b)).map fN).length<=1000000):=by
      show _<=_;rw[<-ME.out,List.length_map];have:=LM2.out;omega
     clear hO3 hg3 RS2 VM2 QM2 INM ME LM2;go_wp2_with fail
     go_at_call 65;refine oG _ true _ _ w3 RS3.out LM3.out ?_;intro s4 w4 hO4 hg4;rw[<-RLE.out] at hO4;have HOW:=Lh HO2.out;have GW0:=Lh GW2.out;have HO2:=Lh (aJ HO2.out hg4);have IN2:=Lh (IN2.out.grow hg4);have GW2:=Lh (GW2.out.tr hg4);have Q1:=Lh (Q1.out.gr2 (by decide) hg4)
     obtain⟨L,hL⟩:∃ L,rl ix=L:=⟨_,rfl⟩
     have HLL:=Lh hL;rw[hL] at hO4 OKE;have R4:=Lh (Rd.own hO4)
     have NEW:Hid (∀ v,s4=v->dF wg.heap.size w4 (.slice ap2 rows2.length cp2) [⟨v,L⟩]):=by
      rintro v rfl r hr;rw[List.mem_singleton.1 hr]
      refine(Rd.own_from hO4).into fun b hb=>⟨fun e=>?_,by have:=GW0.out.size;omega⟩
      have h2:=(HOW.out.lt b e.symm).2;omega
     obtain⟨A4,c4,rfl⟩:=aH hO4;have NEW:=Lh (NEW.out _ rfl);clear hO4 hg4 hL HOW RS3 GW0 RLE LM3;go_upto_region 12 with fail
     by_cases h3:3<=L.length
     ·have t3:decide ((2:Int)<(L.length:Int))=true:=by rw[decide_eq_true_eq];omega
      have h3':=Lh h3;clear h3;have SG1:=Lh fun (R:Ending->World->Prop) hR=>nO L (.slice A4 L.length c4) _ w4 R4.out (R:=R) hR
      go_wp2_with fail
      go_at_call 68;refine SG1.out _ ?_;intro w5 hg5;have HO2:=Lh (aJ HO2.out hg5);have IN2:=Lh (IN2.out.grow hg5);have GW2:=Lh (GW2.out.tr hg5);have NEW:=Lh (NEW.out.grow hg5);have Q1:=Lh (Q1.out.gr2 (by decide) hg5);clear hg5 SG1 R4;go_wp2_with fail
      go_at_call 68;refine nO l _ _ w5 Q1.out ?_;intro w6 hg6;have HO2:=Lh (aJ HO2.out hg6);have IN2:=Lh (IN2.out.grow hg6);have GW2:=Lh (GW2.out.tr hg6);have NEW:=Lh (NEW.out.grow hg6);clear hg6 Q1
      by_cases hsg:dM (bP L)=dM (bP l)
      ·have t1:(dM (bP L)==dM (bP l))=true:=by rw[beq_iff_eq];exact hsg
       have OKT:Hid (okf ix=true):=by
        show _=_;rw[OKE.out,decide_eq_true h3'.out,decide_eq_true hsg];rfl
       have F1:=Lh (F1.out (.inl OKT.out))
       have RW2:Hid (rows2.map aI.l++[L]=rows.map aI.l++((gl.take (k+1)).filter okf).map rl):=by
        show _=_;rw[hls2.out,FS.out,if_pos OKT.out,HLL.out,List.append_assoc]
       generalize dM (bP L)=sgl at*;generalize dM (bP l)=sg at*;clear hsg hls2 FS F0 OKE OKT hfst HLL h3';go_upto_region 9 with (at_builtin;refine bJ rfl _ _ rfl fY HO2.out rfl 1 _ rfl (by decide) rfl (by simp[Value.oneCell']) (by have:=hrn2.out;have:=HRN.out;have:=GN.out;have:=RLT.out.1;omega) GW2.out ⟨Nat.le_refl _,GW2.out.size⟩ ?_;intro v9 w9 hO9 hg9 hgr9 hb9)
       have HO9:Hid (w9.ownsRow wg.heap.size 58 1 v9 (rows2++[(⟨.slice A4 L.length c4,L⟩:aI)]).length ((rows2++[(⟨.slice A4 L.length c4,L⟩:aI)]).map aI.v)):=aO hO9 (by simp) (by simp);have IN9:=Lh (IN2.out.app NEW.out hgr9 hb9 (Nat.le_succ _));have HG9:=Lh hg9;clear hO9 hg9 hgr9 hb9 HO2 IN2 NEW;go_wp2;go_roundw
       case rel=>exact⟨k+1,_,by omega,by go_num,HO9.out,IN9.out,by rw[List.map_append];exact RW2.out,F1.out,by rw[List.length_append];have:=hrn2.out;show _+1<=_;omega,HG9.out⟩
       case measure=>simp[Go.RowKit.intOf];omega
      ·have t1:(dM (bP L)==dM (bP l))=false:=by rw[beq_eq_false_iff_ne];exact hsg
       have NOK:Hid (okf ix=false):=by
        show _=_;rw[OKE.out,decide_eq_false hsg,Bool.and_false]
       generalize dM (bP L)=sgl at*;generalize dM (bP l)=sg at*;clear hsg HLL NEW h3'
       by_cases hk0:k=0
       ·have GN:=Lh (F0.out hk0 NOK.out)
        have LS:=Lh (LS.out _ GN.out)
        have RW2:Hid (rows2.map aI.l=((G.take (kk+1)).map cE.l).flatMap (gL rl okf)):=by
         show _=_;rw[LS.out,List.append_nil,hls2.out,hk0,hls.out,List.take_zero];simp
        have RN2:Hid (rows2.length<=401*(kk+1)):=by show _<=_;have:=hrn2.out;have:=HRN.out;omega
        have tk:((k:Int)==0)=true:=by rw[beq_iff_eq];omega
        clear hls2 hls FS F0 F1 OKE NOK GN LS hfst;go_wp2;go_roundw
        case rel=>exact⟨kk+1,rows2,by omega,by go_num,HO2.out,IN2.out,RW2.out,RN2.out,GW2.out⟩
        case measure=>simp[Go.RowKit.intOf];omega
       ·have tk:((k:Int)==0)=false:=by rw[beq_eq_false_iff_ne];omega
        have F1:=Lh (F1.out (.inr (by omega)))
        have RW2:Hid (rows2.map aI.l=rows.map aI.l++((gl.take (k+1)).filter okf).map rl):=by
         show _=_;rw[hls2.out,FS.out,if_neg (by rw[NOK.out];decide),List.append_nil]
        clear hls2 FS F0 OKE NOK hfst;go_wp2;go_roundw
        case rel=>exact⟨k+1,rows2,by omega,by go_num,HO2.out,IN2.out,RW2.out,F1.out,Nat.le_succ_of_le hrn2.out,GW2.out⟩
        case measure=>simp[Go.RowKit.intOf];omega
     ·have t3:decide ((2:Int)<(L.length:Int))=false:=by rw[decide_eq_false_iff_not];omega
      have NOK:Hid (okf ix=false):=by
       show _=_;rw[OKE.out,decide_eq_false h3];rfl
      clear h3 HLL NEW R4 Q1
      by_cases hk0:k=0
      ·have GN:=Lh (F0.out hk0 NOK.out)
       have LS:=Lh (LS.out _ GN.out)
       have RW2:Hid (rows2.map aI.l=((G.take (kk+1)).map cE.l).flatMap (gL rl okf)):=by
        show _=_;rw[LS.out,List.append_nil,hls2.out,hk0,hls.out,List.take_zero];simp
       have RN2:Hid (rows2.length<=401*(kk+1)):=by show _<=_;have:=hrn2.out;have:=HRN.out;omega
       have tk:((k:Int)==0)=true:=by rw[beq_iff_eq];omega
       clear hls2 hls FS F0 F1 OKE NOK GN LS hfst;go_wp2;go_roundw
       case rel=>exact⟨kk+1,rows2,by omega,by go_num,HO2.out,IN2.out,RW2.out,RN2.out,GW2.out⟩
       case measure=>simp[Go.RowKit.intOf];omega
      ·have tk:((k:Int)==0)=false:=by rw[beq_eq_false_iff_ne];omega
       have F1:=Lh (F1.out (.inr (by omega)))
       have RW2:Hid (rows2.map aI.l=rows.map aI.l++((gl.take (k+1)).filter okf).map rl):=by
        show _=_;rw[hls2.out,FS.out,if_neg (by rw[NOK.out];decide),List.append_nil]
       clear hls2 FS F0 OKE NOK hfst;go_wp2;go_roundw
       case rel=>exact⟨k+1,rows2,by omega,by go_num,HO2.out,IN2.out,RW2.out,F1.out,Nat.le_succ_of_le hrn2.out,GW2.out⟩
       case measure=>simp[Go.RowKit.intOf];omega
    ·obtain rfl:k=gl.length:=by omega
     rw[List.take_length] at hls2;have GA2:=Lh (wW (rl:=rl) (ok:=okf) (g:=gl) (fun h0=>hfst.out h0 h0));have LS:=Lh (LS.out _ GA2.out)
     have RW2:Hid (rows2.map aI.l=((G.take (kk+1)).map cE.l).flatMap (gL rl okf)):=by
      show _=_;rw[LS.out,hls2.out,hls.out]
     have RN2:Hid (rows2.length<=401*(kk+1)):=by show _<=_;have:=hrn2.out;have:=HRN.out;have:=RLT.out.1;omega
     have HO2:=Lh hown2;clear hls2 hls GA2 LS hfst hown2 x4;go_wp2;go_roundw
     case rel=>exact⟨kk+1,rows2,by omega,by go_num,HO2.out,hin2.out,RW2.out,RN2.out,hgw2.out⟩
     case measure=>simp[Go.RowKit.intOf];omega
  ·obtain rfl:kk=G.length:=by omega
   rw[List.take_length] at hls;have HO:=Lh (fP hown GA.out.size)
   have IN:Hid (dF w.heap.size wr (.slice ap rows.length cp) rows):=fun r hr=>(hin.out r hr).into fun b hb=>⟨hb.1,by have:=hb.2;have:=GA.out.size;omega⟩
   have RW2:=Lh (hls.out.trans PE.out);have GF:=Lh (GA.out.tr hgw.out);clear hown hin hls;go_wp2;exact HR.out _ rows _ HO.out IN.out RW2.out GF.out
end Go.Proofs.YtjalimkajcjapaaGreatDoor
