import Derived.Test.YtjalimkajcjapaaGreatDoorOvCI
namespace Go.Proofs.YtjalimkajcjapaaGreatDoor
set_option maxRecDepth 100000
open Go.RowKit B
theorem fW {ty:Int}{A:List aI}(h:aT ty A=0):0<A.length/\(ty=1->A.length=1)/\∀ r∈A,∀ p∈r.l,(-1048576<=p.x/\p.x<=1048576)/\-1048576<=p.y/\p.y<=1048576:=by
 unfold aT at h
 split at h
 ·omega
 ·split at h
  ·omega
  ·rename_i h2
   split at h
   ·omega
   ·split at h
    ·omega
    ·rename_i h4
     refine⟨by omega,fun e=>by omega,fun r hr p hp=>?_⟩;unfold dL eX at h4;simp only[List.any_eq_true,not_exists,not_and] at h4;have:=h4 r hr p hp;unfold Pt.off inm at this;simp only[Bool.or_eq_true,Bool.not_eq_true',Bool.and_eq_false_iff,decide_eq_false_iff_not] at this;omega
set_option maxHeartbeats 16000000 in
theorem uG (f:Ft)(z:Zm)(e:Int)(A:List aI)(n:Nat)(xs:List Value)(S S' Sa:Nat->Prop)(w:World)(hp:Rd w S 1 f.pv A.length (A.map aI.v))(hA:∀ r∈A,r.rd w S')(ha:Rd w Sa 4 f.av n xs)(h1:∀ u∈xs,u.oneCell'=true)(hn:n*48<=140737488355328)(hl:A.length<=1000/\∀ r∈A,r.l.length<=100000)
  (hty:aS z e=true->aT f.ty A=0->f.ty=1) {R:Ending->World->Prop}
  (hbad:(aS z e=true->aT f.ty A=0->ptL z e (A.map aI.l)=[])->∀ w',aB w w'->R (.returned (.tuple #[.agg aV.cells.toArray,.bool false])) w')
  (hok:aS z e=true->aT f.ty A=0->ptL z e (A.map aI.l)≠[]->∀ (pv av:Value) (rows:List aI) (w':World),aB w w'->Rd w' (fun b=>w.heap.size<=b) 1 pv rows.length (rows.map aI.v)->(∀ r∈rows,r.rd w' (fun b=>w.heap.size<=b))->rows.map aI.l=ptL z e (A.map aI.l)->Rd w' (fun b=>w.heap.size<=b∨Sa b) 4 av n xs->R (.returned (.tuple #[.agg (⟨f.h,f.id,f.ty,pv,av⟩:Ft).cells.toArray,.bool true])) w'):
  Calls Tryz.prog 17 #[.agg f.cells.toArray,.agg z.cells.toArray,.int .i64 e] w R:=by
 have HBAD:=Lh hbad;have HOK:=Lh hok;clear hbad hok;have hp:=hp.lt (by decide);have HP:=Lh hp;have HA:=Lh hA;have HAT:=Lh ha;obtain⟨_,aA,ac,hav,-,-,-,-⟩:=ha;have H1:=Lh h1;have HN:=Lh hn;have HL:=Lh hl;clear hA h1 hn;obtain⟨h,id,ty,pv,av⟩:=f;dsimp only at*;subst hav;obtain⟨_,pA,pc,rfl,p1,p2,p3,p4⟩:=hp;unfold maxLen at p2;have OR:=Lh fun W (R:Ending->World->Prop) hR=>jM z e W (R:=R) hR
 have PR:=Lh fun W (hg:aB w W) (R:Ending->World->Prop) hR=>eW ty _ A _ _ W (HP.out.gr (by decide) hg) (fun r hr=>(HA.out r hr).gr2 (by decide) hg) (R:=R) hR
 obtain⟨wa,hwa⟩:∃ wa,wa=((w.alloc (.cells (⟨h,id,ty,.slice pA A.length pc,.slice aA n ac⟩:Ft).cells.toArray 44)).alloc (.cells z.cells.toArray 26)).alloc (.cells aV.cells.toArray 44):=⟨_,rfl⟩
 have GA:Hid (aB w wa):=by subst hwa;exact(((aB.refl _).al _).al _).al _
 have BF:Hid (wa.heap[w.heap.size]? =some (.cells (⟨h,id,ty,.slice pA A.length pc,.slice aA n ac⟩:Ft).cells.toArray 44 (0,0))):=by
  rw[hwa];exact aC (((aB.refl _).al _).al _) (heap_alloc_new w _)
 have BZ:Hid (wa.heap[w.heap.size+1]? =some (.cells z.cells.toArray 26 (0,0))):=by
  have:=aC ((aB.refl _).al (.cells aV.cells.toArray 44)) (heap_alloc_new (w.alloc (.cells (⟨h,id,ty,.slice pA A.length pc,.slice aA n ac⟩:Ft).cells.toArray 44)) (.cells z.cells.toArray 26));rw[World.size_alloc] at this;rw[hwa];exact this
 have BR:Hid (wa.heap[w.heap.size+1+1]? =some (.cells aV.cells.toArray 44 (0,0))):=by
  have:=heap_alloc_new ((w.alloc (.cells (⟨h,id,ty,.slice pA A.length pc,.slice aA n ac⟩:Ft).cells.toArray 44)).alloc (.cells z.cells.toArray 26)) (.cells aV.cells.toArray 44);rw[World.size_alloc,World.size_alloc] at this;rw[hwa];exact this
 have LTF:Hid (w.heap.size+1+1<wa.heap.size):=lt_of_block BR.out;go_enter Tryz.func17,Tryz.ntmps17
 go_upto_region 1 with fail
 rw[show ((w.alloc (.cells (⟨h,id,ty,.slice pA A.length pc,.slice aA n ac⟩:Ft).cells.toArray 44)).alloc (.cells z.cells.toArray 26)).alloc (.cells #[.bool false,.int .u64 0,.int .i64 0,.slice none 0 0,.slice none 0 0] 44)=wa from hwa.symm];clear hwa;go_wp2_with (refine wpList_load_row rfl 26 _ rfl (w.heap.size+1) rfl 26 _ _ _ BZ.out Tryz.underlying26 rfl (by kernel_rfl) ?_)
 go_at_call 15;refine OR.out _ _ ?_;intro w1 hg1;have BF:=Lh (aC hg1 BF.out);have BZ:=Lh (aC hg1 BZ.out);have BR:=Lh (aC hg1 BR.out);have GA:=Lh (GA.out.tr hg1);clear hg1 OR
 cases hz:aS z e with
 |false=>
  have HZ:=Lh hz;clear hz PR p4;go_wp2_with (refine wpList_store_row rfl 44 _ _ rfl (w.heap.size+1+1) aV.cells.toArray rfl rfl 44 _ BR.out (by kernel_rfl) rfl (by simp[aV,Ft.cells,Value.oneCell']) ?_)
  refine bodyPost_ret (v:=.tuple #[.agg aV.cells.toArray,.bool false]) ?_ rfl (HBAD.out (fun h=>by rw[HZ.out] at h;cases h) _ (GA.out.row2 (show w.heap.size<=w.heap.size+1+1 by omega) _));exact aQ rfl _ _ (w.heap.size+1+1) _ _ _ _ rfl (setRow_heap _ _ _ _ _ _ BR.out) rfl rfl Tryz.underlying44 (by kernel_rfl)
 |true=>
  have HZ:=Lh hz;clear hz;have f2:=cell_of_row _ w.heap.size 2 _ _ (0,0) BF.out;have f3:=cell_of_row _ w.heap.size 3 _ _ (0,0) BF.out;unfold Ft.cells at f2 f3;simp only[List.getElem?_toArray,List.getElem?_cons_zero,List.getElem?_cons_succ] at f2 f3;go_wp2_with fail
  go_at_call 22;refine PR.out _ GA.out _ ?_;intro w2 hg2;have BF:=Lh (aC hg2 BF.out);have BZ:=Lh (aC hg2 BZ.out);have BR:=Lh (aC hg2 BR.out);have GA:=Lh (GA.out.tr hg2);clear hg2 f2 f3 PR
  by_cases hpr:aT ty A=0
  ·have HPR:=Lh hpr
   have HTY:Hid (ty=1):=hty HZ.out hpr;clear hty;rw[hpr];clear hpr;obtain⟨r1,r2,r3,r4,r5,r6,r7,r8,r9,r10⟩:=bA HZ.out;obtain⟨al0,al1,ain⟩:=fW HPR.out;have AL1:Hid (A.length=1):=al1 HTY.out;have AIN:=Lh ain;have w1':IntKind.i64.wrap (-z.b)=-z.b:=IntWalk.i64_in _ (by omega);have w2':IntKind.i64.wrap (e+z.b)=e+z.b:=IntWalk.i64_in _ (by omega);have LOHI:=Lh (And.intro w1' w2');clear w1' w2' r1 r2 r3 r4 r5 r6 r7 r8 r9 r10 al0 al1 ain;go_upto_region 3 with fail
   refine aE (aB w2.drew) ((aB.refl _)) 8 [0,1,2,3,4,5,6,7] (by kernel_rfl) (by kernel_rfl) (by intro c a d v w h;cases d<;>exact h) ?_;have GD:=Lh ((aB.refl w2).dr);have BF:=Lh (aC GD.out BF.out);have BZ:=Lh (aC GD.out BZ.out);have BR:=Lh (aC GD.out BR.out);have GA:=Lh (GA.out.tr GD.out);clear GD;generalize w2.drew=w3 at*;have ZC:Hid (∀ W,aB w3 W->W.cell? ⟨w.heap.size+1,3,none⟩=some (.int .i64 z.b)):=fun W hW=>by rw[cell_of_row _ _ _ _ _ _ (aC hW BZ.out)];rfl
   iterate 8 (apply aD;exact rfl;exact rfl;(intro W hW;have z3:=ZC.out W hW;(try clear hW);go_simp;with_reducible rfl);try simp only[Act.put,sA,sZ,sS])
   refine aK ?_;simp only[List.drop_succ_cons,List.drop_zero];clear ZC;have f3:=cell_of_row _ w.heap.size 3 _ _ (0,0) BF.out;unfold Ft.cells at f3;simp only[List.getElem?_toArray,List.getElem?_cons_zero,List.getElem?_cons_succ] at f3;go_wp2_with fail
   clear f3;simp only[LOHI.out.1,LOHI.out.2];clear LOHI
   go_loopw [41,10,11] (fun i pv sv wr=>∃ (k:Nat) (rows:List aI) (ns:List Int),k<=A.length/\i=.int .i64 k/\Hid (rows.map aI.l=(A.take k).map fun r=>r.l.map (scl z e))/\Hid (ns.length=k)/\Hid (FSt w3 pv sv rows ns wr)) (fun i _ _ _=>A.length-(intOf i).toNat)
   case atStart=>exact⟨0,[],[],Nat.zero_le _,rfl,rfl,rfl,FSt.nil _⟩
   case round=>
    obtain⟨k,rows,ns,hk,rfl,hrl,hns,hst⟩:=hrel;have RL:Hid (rows.length=k):=by show _=_;have:=congrArg List.length hrl.out;rw[List.length_map,List.length_map,List.length_take] at this;omega
    obtain⟨ap,cp,rfl⟩:=aH hst.out.op;obtain⟨as',cs',rfl⟩:=aH hst.out.os
    by_cases hlt:k<A.length
    ·obtain⟨b,o,rfl,-,-⟩:=p4 (by omega)
     have c1:wr.cell? ⟨b,o+k,none⟩=some (A[k]'hlt).v:=by
      have:=bH (GA.out.tr hst.out.gr) HP.out rfl (i:=k) (by simpa using hlt);rw[List.getElem_map] at this;exact this
     have r1:=HA.out (A[k]'hlt) (List.getElem_mem hlt)
     have TK:Hid (∀ v:Value,(rows++[aI.mk v ((A[k]'hlt).l.map (scl z e))]).map aI.l=(A.take (k+1)).map fun r=>r.l.map (scl z e)):=fun v=>by
      rw[List.map_append,hrl.out,List.take_succ_eq_append_getElem hlt,List.map_append];rfl
     have BI:=Lh (AIN.out _ (List.getElem_mem hlt));have BL:=Lh (HL.out.2 _ (List.getElem_mem hlt))
     have NL:Hid (ns.length<=1000/\rows.length<=1000):=⟨by have:=hns.out;have:=HL.out.1;omega,by have:=RL.out;have:=HL.out.1;omega⟩
     have ST:=Lh hst.out;have NS:=Lh hns.out;clear p4 hrl hns hst RL;generalize A[k]'hlt=q at*;obtain⟨v1,l1⟩:=q;unfold aI.rd at r1;dsimp only at*;have r1:=Lh (r1.lt (by decide));have BZ1:=Lh (aC ST.out.gr BZ.out);go_wp2_with (refine wpList_load_row rfl 26 _ rfl (w.heap.size+1) rfl 26 _ _ _ BZ1.out Tryz.underlying26 rfl (by kernel_rfl) ?_)
     go_at_call 27;refine lS z e l1 v1 _ wr (r1.out.gr (by decide) (GA.out.tr ST.out.gr)) BL.out HZ.out BI.out ?_;intro r4 w4 hO4 hg4
     have NEW:Hid (aI.rd w4 (uV (.slice ap rows.length cp) (.slice as' ns.length cs')) ⟨r4,l1.map (scl z e)⟩):=by
      show Rd _ _ _ _ _ _;refine(Rd.own_from (aO hO4 (List.length_map (scl z e)).symm rfl)).into fun b hb=>ST.out.off hb
     have ST:=Lh (ST.out.tr hg4);obtain⟨A4,c4,rfl⟩:=aH hO4;clear hg4 hO4 c1 BZ1;go_upto_region 10 with (at_builtin;refine aM rfl _ _ rfl fY ST.out.op rfl 1 _ rfl _ rfl (by decide) rfl (by simp[Value.oneCell']) (by have:=NL.out.2;omega) ST.out.gr ⟨Nat.le_refl _,ST.out.gr.size⟩ ?_;intro v5 w5 hO5 hg5 hgr5 hb5)
     have ST:=Lh (ST.out.path (r:=⟨.slice A4 l1.length c4,l1.map (scl z e)⟩) hgr5 (aO hO5 (by simp) (by simp)) (hb5.elim .inl fun h=>.inr ⟨_,h,Nat.le_succ _⟩) NEW.out);obtain⟨A5,c5,rfl⟩:=aH hO5;clear hO5 hg5 hgr5 hb5 NEW;go_wp2_with fail
     go_at_call 28;refine iU l1 v1 _ _ (r1.out.gr (by decide) (GA.out.tr ST.out.gr)) ?_;intro w6 hg6;have ST:=Lh (ST.out.tr hg6);clear hg6;go_upto_region 11 with (at_builtin;refine aM rfl _ _ rfl qV ST.out.os rfl 1 _ rfl _ rfl (by decide) rfl (by simp[Value.oneCell']) (by have:=NL.out.1;omega) ST.out.gr ⟨Nat.le_refl _,ST.out.gr.size⟩ ?_;intro v7 w7 hO7 hg7 hgr7 hb7)
     have ST:=Lh (ST.out.sign (n:=dM (bP l1)) hgr7 (aO hO7 (by simp) (by simp[Is])) (hb7.elim .inl fun h=>.inr ⟨_,h,Nat.le_succ _⟩));clear hO7 hg7 hgr7 hb7;go_wp2;go_roundw
     case rel=>exact⟨k+1,_,_,by omega,by go_num,TK.out _,by rw[List.length_append];have:=NS.out;show _+1=_;omega,ST.out⟩
     case measure=>simp[intOf];omega
    ·obtain rfl:k=A.length:=by omega
     rw[List.take_length] at hrl;obtain⟨a0,hA0⟩:∃ a0,A=[a0]:=List.length_eq_one_iff.1 AL1.out;have hlen:rows.length=1:=RL.out.trans AL1.out;obtain⟨q0,hq0⟩:∃ q0,rows=[q0]:=List.length_eq_one_iff.1 hlen
     have HQL:Hid (q0.l=a0.l.map (scl z e)):=by
      have:=hrl.out;rw[hq0,hA0,List.map_singleton,List.map_singleton,List.cons.injEq] at this;exact this.1
     have HPT:Hid (ptL z e (A.map aI.l)=if (q0.l.filter fun p=>p.inside (-z.b) (e+z.b))=[] then[] else[q0.l.filter fun p=>p.inside (-z.b) (e+z.b)]):=by
      show _=_;unfold ptL wD;rw[HQL.out,hA0];rfl
     have BQL:Hid (q0.l.length<=1000000):=by
      show _<=_;rw[HQL.out,List.length_map];have:=HL.out.2 a0 (by rw[hA0];simp);omega
     have RQ:Hid (q0.rd wr (uV (.slice ap rows.length cp) (.slice as' ns.length cs'))):=hst.out.each q0 (by rw[hq0];simp);obtain⟨_,A',c',hv,q1,q2,-,q4⟩:=Rd.own_lt hst.out.op;injection hv with e1 e2 e3
     clear e2;subst e1 e3;obtain⟨bp,op,rfl,hSp,hcp⟩:=q4 (by omega);have CP:Hid (∀ W,aB wr W->W.cell? ⟨bp,op,none⟩=some q0.v):=fun W hW=>(hW.cell (p:=⟨bp,op,none⟩) hSp).trans (hcp 0 _ (by rw[hq0];rfl))
     have GW:=Lh hst.out.gr;have BF:Hid (wr.heap[w.heap.size]? =some (.cells #[.bool h,.int .u64 id,.int .i64 ty,.slice pA A.length pc,.slice aA n ac] 44 (0,0))):=aC GW.out BF.out;have BR:=Lh (aC GW.out BR.out);have GA:=Lh (GA.out.tr GW.out);have te:(ty==1)=true:=by rw[beq_iff_eq];exact HTY.out
     have LTR:Hid (w.heap.size+1+1<wr.heap.size):=lt_of_block BR.out;rw[hlen];have RQ:=Lh (RQ.out.lt (by decide));clear q1 q2 q4 hcp hSp hst p4 hrl hns hq0 hlen hA0 HQL GW AIN RL;go_upto_region 13 with (refine wpList_load_row rfl 44 _ rfl w.heap.size rfl 44 _ _ _ BF.out Tryz.underlying44 rfl (by kernel_rfl) ?_)
     have BO:Hid (aN wr wr.heap.size #[.bool h,.int .u64 id,.int .i64 ty,.slice pA A.length pc,.slice aA n ac] 44 (wr.alloc (.cells #[.bool h,.int .u64 id,.int .i64 ty,.slice pA A.length pc,.slice aA n ac] 44))):=aN.laid _ _ (aB.refl wr);have SZ:Hid ((wr.alloc (.cells #[.bool h,.int .u64 id,.int .i64 ty,.slice pA A.length pc,.slice aA n ac] 44)).heap.size=wr.heap.size+1):=World.size_alloc _ _;generalize wr.alloc (.cells #[.bool h,.int .u64 id,.int .i64 ty,.slice pA A.length pc,.slice aA n ac] 44)=w5 at*
     obtain⟨bo,hbo⟩:∃ bo,bo=wr.heap.size:=⟨_,rfl⟩
     rw[<-hbo] at BO SZ ⊢
     have LBO:Hid (w.heap.size+1+1<bo/\wr.heap.size<=bo):=⟨by have:=LTR.out;omega,by omega⟩
     clear hbo;have f4:w5.cell? ⟨w.heap.size,4,none⟩=some (.slice aA n ac):=by rw[cell_of_row _ _ _ _ _ _ (aC BO.out.grow BF.out)];rfl
     go_wp2_with fail
     go_at_call 21;refine gE n xs _ Sa w5 (HAT.out.gr2 (by decide) (GA.out.tr BO.out.grow)) (by have:=HN.out;omega) H1.out ?_;intro r6 w6 hO6 hg6;have BO:=Lh (BO.out.tr hg6);have RAV:Hid (Rd w6 (fun b=>bo<b/\b<w6.heap.size) 4 r6 n xs):=(Rd.own hO6).into fun b hb=>by have:=hO6.lt b hb.symm;have:=SZ.out;omega
     obtain⟨A6,c6,rfl⟩:=aH hO6;clear hO6 hg6 f4;have z3:=BO.out.cell 3;have g3:=BO.out.free 3;have B1:=Lh (BO.out.set 3 (.slice none 0 0));have z4:=B1.out.cell 4;have g4:=B1.out.free 4;have B2:=Lh (B1.out.set 4 (.slice A6 n c6));simp only[sA,sZ,sS,List.getElem?_toArray,List.getElem?_cons_zero,List.getElem?_cons_succ] at z3 z4 B2
     have RAV:Hid (Rd ((w6.setCell ⟨bo,3,none⟩ (.slice none 0 0)).setCell ⟨bo,4,none⟩ (.slice A6 n c6)) (fun b=>bo<b/\b<w6.heap.size) 4 (.slice A6 n c6) n xs):=((RAV.out.set (fun b hb=>by omega) _).set (fun b hb=>by omega) _)
     have SZ2:Hid (((w6.setCell ⟨bo,3,none⟩ (.slice none 0 0)).setCell ⟨bo,4,none⟩ (.slice A6 n c6)).heap.size=w6.heap.size):=by show _=_;rw[dK,dK]
     go_upto_region 14 with fail
     clear z3 g3 z4 g4 B1;generalize (w6.setCell ⟨bo,3,none⟩ (.slice none 0 0)).setCell ⟨bo,4,none⟩ (.slice A6 n c6)=w7 at*;have f2:w7.cell? ⟨w.heap.size,2,none⟩=some (.int .i64 ty):=by rw[cell_of_row _ _ _ _ _ _ (aC B2.out.grow BF.out)];rfl
     have cp0:=CP.out _ B2.out.grow;go_wp2_with fail
     go_at_call 29;refine wL q0.l (-z.b) (e+z.b) q0.v _ w7 (RQ.out.gr (by decide) B2.out.grow) BQL.out ?_;intro r8 w8 hO8 hg8;generalize (q0.l.filter fun p=>p.inside (-z.b) (e+z.b))=fl at*;have B2:=Lh (B2.out.tr hg8);have RPT:Hid (Rd w8 (fun b=>bo<b/\b<w8.heap.size) 2 r8 fl.length (Pts fl)):=(Rd.own hO8).into fun b hb=>by have:=hO8.lt b hb.symm;have:=SZ2.out;have:=BO.out.lt;omega
     have RAV:Hid (Rd w8 (fun b=>bo<b/\b<w8.heap.size) 4 (.slice A6 n c6) n xs):=(RAV.out.gr2 (by decide) hg8).into fun b hb=>by have:=hg8.size;have:=SZ2.out;omega
     obtain⟨A8,c8,rfl⟩:=aH hO8;clear hO8 hg8 f2 cp0 BO SZ SZ2 te;have BR:=Lh (aC B2.out.grow BR.out);have GA:=Lh (GA.out.tr B2.out.grow)
     by_cases h0:fl=[]
     ·have t0:decide ((0:Int)<(fl.length:Int))=false:=by rw[decide_eq_false_iff_not,h0];simp
      have PT0:Hid (ptL z e (A.map aI.l)=[]):=by show _=_;rw[HPT.out,if_pos h0]
      have z3:=B2.out.cell 3;simp only[List.getElem?_toArray,List.getElem?_cons_zero,List.getElem?_cons_succ] at z3;have hnp:¬ 0<fl.length:=by rw[h0];simp
      clear h0;go_wp2_with (refine wpList_store_row rfl 44 _ _ rfl (w.heap.size+1+1) aV.cells.toArray rfl rfl 44 _ BR.out (by kernel_rfl) rfl (by simp[aV,Ft.cells,Value.oneCell']) ?_)
      refine bodyPost_ret (v:=.tuple #[.agg aV.cells.toArray,.bool false]) ?_ rfl (HBAD.out (fun _ _=>PT0.out) _ (GA.out.row2 (show w.heap.size<=w.heap.size+1+1 by omega) _));exact aQ rfl _ _ (w.heap.size+1+1) _ _ _ _ rfl (setRow_heap _ _ _ _ _ _ BR.out) rfl rfl Tryz.underlying44 (by kernel_rfl)
     ·have t0:decide ((0:Int)<(fl.length:Int))=true:=by rw[decide_eq_true_eq];have:=List.length_pos_iff.2 h0;omega
      have PT0:Hid (ptL z e (A.map aI.l)=[fl]):=by show _=_;rw[HPT.out,if_neg h0]
      have hnp:0<fl.length:=List.length_pos_iff.2 h0;clear h0;go_upto_region 18 with fail
      have NB:Hid (bo<w8.heap.size):=B2.out.lt;have RNEW:=Lh (Rd.lit w8 #[.slice A8 fl.length c8] 58 1 (by decide) rfl:Rd _ _ 1 _ 1 [.slice A8 fl.length c8]);have GL:aB w8 (w8.alloc (.cells #[.slice A8 fl.length c8] 58)):=(aB.refl _).al _;have B2:=Lh (B2.out.tr GL);have RAV:=Lh (RAV.out.gr2 (by decide) GL);have RPT:=Lh (RPT.out.gr2 (by decide) GL);have BR:=Lh (aC GL BR.out);have GA:=Lh (GA.out.tr GL);clear GL
      obtain⟨nb,hnb⟩:∃ nb,nb=w8.heap.size:=⟨_,rfl⟩
      rw[<-hnb] at NB RNEW RAV RPT;have z3:=B2.out.cell 3;have g3:=B2.out.free 3;have B3:=Lh (B2.out.set 3 (.slice (some ⟨nb,0,none⟩) 1 1));simp only[sA,sZ,sS,List.getElem?_toArray,List.getElem?_cons_zero,List.getElem?_cons_succ] at z3 B3;go_upto_region 24 with fail
      rw[<-hnb];clear z3 g3 hnb;have BR:=Lh (iT BR.out (show w.heap.size+1+1≠bo by have:=LBO.out;omega) 3 (.slice (some ⟨nb,0,none⟩) 1 1));have GA:=Lh (GA.out.set (p:=⟨bo,3,none⟩) (show w.heap.size<=bo by have:=LBO.out;omega) (.slice (some ⟨nb,0,none⟩) 1 1));have RNEW:=Lh (RNEW.out.set (B:=bo) (j:=3) (fun b hb=>by have:=NB.out;omega) (.slice (some ⟨nb,0,none⟩) 1 1));have RAV:=Lh (RAV.out.set (B:=bo) (j:=3) (fun b hb=>by omega) (.slice (some ⟨nb,0,none⟩) 1 1))
      have RPT:=Lh (RPT.out.set (B:=bo) (j:=3) (fun b hb=>by omega) (.slice (some ⟨nb,0,none⟩) 1 1));generalize (w8.alloc (.cells #[.slice A8 fl.length c8] 58)).setCell ⟨bo,3,none⟩ (.slice (some ⟨nb,0,none⟩) 1 1)=w9 at*;have z3:=B3.out.cell 3;simp only[List.getElem?_toArray,List.getElem?_cons_zero,List.getElem?_cons_succ] at z3;have BO3:=Lh B3.out.2.2;clear hnp B2 B3
      go_wp2_with (first|(refine wpList_load_row rfl 44 _ rfl bo rfl 44 _ _ _ BO3.out Tryz.underlying44 rfl (by kernel_rfl) ?_)|(refine wpList_store_row rfl 44 _ _ rfl (w.heap.size+1+1) #[.bool h,.int .u64 id,.int .i64 ty,.slice (some ⟨nb,0,none⟩) 1 1,.slice A6 n c6] rfl rfl 44 _ BR.out (by kernel_rfl) rfl (by simp[Value.oneCell']) ?_))
      have kp:∀ b,bo<=b->(w9.setRow (w.heap.size+1+1) #[.bool h,.int .u64 id,.int .i64 ty,.slice (some ⟨nb,0,none⟩) 1 1,.slice A6 n c6]).heap[b]? =w9.heap[b]? :=fun b hb=>setRow_other _ _ _ _ (by have:=LBO.out;omega)
      refine bodyPost_ret (v:=.tuple #[.agg #[.bool h,.int .u64 id,.int .i64 ty,.slice (some ⟨nb,0,none⟩) 1 1,.slice A6 n c6],.bool true]) ?_ rfl (HOK.out HZ.out HPR.out (by rw[PT0.out];simp) (.slice (some ⟨nb,0,none⟩) 1 1) (.slice A6 n c6) [⟨.slice A8 fl.length c8,fl⟩] _ (GA.out.row2 (show w.heap.size<=w.heap.size+1+1 by omega) _) ?_ ?_ PT0.out.symm ?_)
      ·exact aQ rfl _ _ (w.heap.size+1+1) _ _ _ _ rfl (setRow_heap _ _ _ _ _ _ BR.out) rfl rfl Tryz.underlying44 (by kernel_rfl)
      ·exact(RNEW.out.keep fun b hb=>kp b (by have:=NB.out;omega)).into fun b hb=>by show w.heap.size<=b;have:=LBO.out;have:=NB.out;omega
      ·intro r hr
       rw[List.mem_singleton.1 hr];exact(RPT.out.keep fun b hb=>kp b (by omega)).into fun b hb=>by show w.heap.size<=b;have:=LBO.out;omega
      ·exact(RAV.out.keep fun b hb=>kp b (by omega)).into fun b hb=>.inl (by have:=LBO.out;omega)
  ·have HPR:=Lh hpr
   have tp:(aT ty A != 0)=true:=by rw[bne_iff_ne];exact hpr
   generalize aT ty A=pr at*;clear hpr p4 hty;go_wp2_with (refine wpList_store_row rfl 44 _ _ rfl (w.heap.size+1+1) aV.cells.toArray rfl rfl 44 _ BR.out (by kernel_rfl) rfl (by simp[aV,Ft.cells,Value.oneCell']) ?_)
   refine bodyPost_ret (v:=.tuple #[.agg aV.cells.toArray,.bool false]) ?_ rfl (HBAD.out (fun _ h=>absurd h HPR.out) _ (GA.out.row2 (show w.heap.size<=w.heap.size+1+1 by omega) _));exact aQ rfl _ _ (w.heap.size+1+1) _ _ _ _ rfl (setRow_heap _ _ _ _ _ _ BR.out) rfl rfl Tryz.underlying44 (by kernel_rfl)
end Go.Proofs.YtjalimkajcjapaaGreatDoor
