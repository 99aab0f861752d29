import Derived.Test.YtjalimkajcjapaaGreatDoorOvD
import Derived.Test.YtjalimkajcjapaaGreatDoorOvEF
import Derived.Test.YtjalimkajcjapaaGreatDoorOvQR
namespace Go.Proofs.YtjalimkajcjapaaGreatDoor
set_option maxRecDepth 100000
open Go.RowKit B
def lnL (z:Zm)(e:Int)(A:List (List Pt)):List (List Pt):=A.flatMap (iN z e)
set_option maxHeartbeats 16000000 in
theorem uF (f:Ft)(z:Zm)(e:Int)(A:List aI)(n:Nat)(xs:List Value)(S S' Sa:Nat->Prop)(w:World)(hp:Rd w S 1 f.pv A.length (A.map aI.v))(hA:∀ r∈A,r.rd w S')(ha:Rd w Sa 4 f.av n xs)(h1:∀ u∈xs,u.oneCell'=true)(hn:n*48<=140737488355328)(hl:A.length<=400/\∀ r∈A,r.l.length<=400)
  (hty:aS z e=true->aT f.ty A=0->f.ty=2) {R:Ending->World->Prop}
  (hbad:(aS z e=true->aT f.ty A=0->lnL z e (A.map aI.l)=[])->∀ w',aB w w'->R (.returned (.tuple #[.agg aV.cells.toArray,.bool false])) w')
  (hok:aS z e=true->aT f.ty A=0->lnL z e (A.map aI.l)≠[]->∀ (pv av:Value) (rows:List aI) (w':World),aB w w'->Rd w' (fun b=>w.heap.size<=b) 1 pv rows.length (rows.map aI.v)->(∀ r∈rows,r.rd w' (fun b=>w.heap.size<=b))->rows.map aI.l=lnL z e (A.map aI.l)->Rd w' (fun b=>w.heap.size<=b∨Sa b) 4 av n xs->R (.returned (.tuple #[.agg (⟨f.h,f.id,f.ty,pv,av⟩:Ft).cells.toArray,.bool true])) w'):
  Calls Tryz.prog 17 #[.agg f.cells.toArray,.agg z.cells.toArray,.int .i64 e] w R:=by
 have HBAD:=Lh hbad;have HOK:=Lh hok;clear hbad hok;have hp:=hp.lt (by decide);have HP:=Lh hp;have HA:=Lh hA;have HAT:=Lh ha;obtain⟨_,aA,ac,hav,-,-,-,-⟩:=ha;have H1:=Lh h1;have HN:=Lh hn;have HL:=Lh hl;clear hA h1 hn;obtain⟨h,id,ty,pv,av⟩:=f;dsimp only at*;subst hav;obtain⟨_,pA,pc,rfl,p1,p2,p3,p4⟩:=hp;unfold maxLen at p2;have OR:=Lh fun W (R:Ending->World->Prop) hR=>jM z e W (R:=R) hR
 have PR:=Lh fun W (hg:aB w W) (R:Ending->World->Prop) hR=>eW ty _ A _ _ W (HP.out.gr (by decide) hg) (fun r hr=>(HA.out r hr).gr2 (by decide) hg) (R:=R) hR
 obtain⟨wa,hwa⟩:∃ wa,wa=((w.alloc (.cells (⟨h,id,ty,.slice pA A.length pc,.slice aA n ac⟩:Ft).cells.toArray 44)).alloc (.cells z.cells.toArray 26)).alloc (.cells aV.cells.toArray 44):=⟨_,rfl⟩
 have GA:Hid (aB w wa):=by subst hwa;exact(((aB.refl _).al _).al _).al _
 have BF:Hid (wa.heap[w.heap.size]? =some (.cells (⟨h,id,ty,.slice pA A.length pc,.slice aA n ac⟩:Ft).cells.toArray 44 (0,0))):=by
  rw[hwa];exact aC (((aB.refl _).al _).al _) (heap_alloc_new w _)
 have BZ:Hid (wa.heap[w.heap.size+1]? =some (.cells z.cells.toArray 26 (0,0))):=by
  have:=aC ((aB.refl _).al (.cells aV.cells.toArray 44)) (heap_alloc_new (w.alloc (.cells (⟨h,id,ty,.slice pA A.length pc,.slice aA n ac⟩:Ft).cells.toArray 44)) (.cells z.cells.toArray 26));rw[World.size_alloc] at this;rw[hwa];exact this
 have BR:Hid (wa.heap[w.heap.size+1+1]? =some (.cells aV.cells.toArray 44 (0,0))):=by
  have:=heap_alloc_new ((w.alloc (.cells (⟨h,id,ty,.slice pA A.length pc,.slice aA n ac⟩:Ft).cells.toArray 44)).alloc (.cells z.cells.toArray 26)) (.cells aV.cells.toArray 44);rw[World.size_alloc,World.size_alloc] at this;rw[hwa];exact this
 have LTF:Hid (w.heap.size+1+1<wa.heap.size):=lt_of_block BR.out;go_enter Tryz.func17,Tryz.ntmps17
 go_upto_region 1 with fail
 rw[show ((w.alloc (.cells (⟨h,id,ty,.slice pA A.length pc,.slice aA n ac⟩:Ft).cells.toArray 44)).alloc (.cells z.cells.toArray 26)).alloc (.cells #[.bool false,.int .u64 0,.int .i64 0,.slice none 0 0,.slice none 0 0] 44)=wa from hwa.symm];clear hwa;go_wp2_with (refine wpList_load_row rfl 26 _ rfl (w.heap.size+1) rfl 26 _ _ _ BZ.out Tryz.underlying26 rfl (by kernel_rfl) ?_)
 go_at_call 15;refine OR.out _ _ ?_;intro w1 hg1;have BF:=Lh (aC hg1 BF.out);have BZ:=Lh (aC hg1 BZ.out);have BR:=Lh (aC hg1 BR.out);have GA:=Lh (GA.out.tr hg1);clear hg1 OR
 cases hz:aS z e with
 |false=>
  have HZ:=Lh hz;clear hz PR p4;go_wp2_with (refine wpList_store_row rfl 44 _ _ rfl (w.heap.size+1+1) aV.cells.toArray rfl rfl 44 _ BR.out (by kernel_rfl) rfl (by simp[aV,Ft.cells,Value.oneCell']) ?_)
  refine bodyPost_ret (v:=.tuple #[.agg aV.cells.toArray,.bool false]) ?_ rfl (HBAD.out (fun h=>by rw[HZ.out] at h;cases h) _ (GA.out.row2 (show w.heap.size<=w.heap.size+1+1 by omega) _));exact aQ rfl _ _ (w.heap.size+1+1) _ _ _ _ rfl (setRow_heap _ _ _ _ _ _ BR.out) rfl rfl Tryz.underlying44 (by kernel_rfl)
 |true=>
  have HZ:=Lh hz;clear hz;have f2:=cell_of_row _ w.heap.size 2 _ _ (0,0) BF.out;have f3:=cell_of_row _ w.heap.size 3 _ _ (0,0) BF.out;unfold Ft.cells at f2 f3;simp only[List.getElem?_toArray,List.getElem?_cons_zero,List.getElem?_cons_succ] at f2 f3;go_wp2_with fail
  go_at_call 22;refine PR.out _ GA.out _ ?_;intro w2 hg2;have BF:=Lh (aC hg2 BF.out);have BZ:=Lh (aC hg2 BZ.out);have BR:=Lh (aC hg2 BR.out);have GA:=Lh (GA.out.tr hg2);clear hg2 f2 f3 PR
  by_cases hpr:aT ty A=0
  ·have HPR:=Lh hpr
   have HTY:Hid (ty=2):=hty HZ.out hpr;clear hty;rw[hpr];clear hpr;obtain⟨r1,r2,r3,r4,r5,r6,r7,r8,r9,r10⟩:=bA HZ.out;obtain⟨al0,al1,ain⟩:=fW HPR.out;have AIN:=Lh ain;have w1':IntKind.i64.wrap (-z.b)=-z.b:=IntWalk.i64_in _ (by omega);have w2':IntKind.i64.wrap (e+z.b)=e+z.b:=IntWalk.i64_in _ (by omega);have LOHI:=Lh (And.intro w1' w2');clear w1' w2' r1 r2 r3 r4 r5 r6 r7 r8 r9 r10 al0 al1 ain;go_upto_region 3 with fail
   refine aE (aB w2.drew) ((aB.refl _)) 8 [0,1,2,3,4,5,6,7] (by kernel_rfl) (by kernel_rfl) (by intro c a d v w h;cases d<;>exact h) ?_;have GD:=Lh ((aB.refl w2).dr);have BF:=Lh (aC GD.out BF.out);have BZ:=Lh (aC GD.out BZ.out);have BR:=Lh (aC GD.out BR.out);have GA:=Lh (GA.out.tr GD.out);clear GD;generalize w2.drew=w3 at*;have ZC:Hid (∀ W,aB w3 W->W.cell? ⟨w.heap.size+1,3,none⟩=some (.int .i64 z.b)):=fun W hW=>by rw[cell_of_row _ _ _ _ _ _ (aC hW BZ.out)];rfl
   iterate 8 (apply aD;exact rfl;exact rfl;(intro W hW;have z3:=ZC.out W hW;(try clear hW);go_simp;with_reducible rfl);try simp only[Act.put,sA,sZ,sS])
   refine aK ?_;simp only[List.drop_succ_cons,List.drop_zero];clear ZC;have f3:=cell_of_row _ w.heap.size 3 _ _ (0,0) BF.out;unfold Ft.cells at f3;simp only[List.getElem?_toArray,List.getElem?_cons_zero,List.getElem?_cons_succ] at f3;go_wp2_with fail
   clear f3;simp only[LOHI.out.1,LOHI.out.2];clear LOHI
   go_loopw [41,10,11] (fun i pv sv wr=>∃ (k:Nat) (rows:List aI) (ns:List Int),k<=A.length/\i=.int .i64 k/\Hid (rows.map aI.l=(A.take k).map fun r=>r.l.map (scl z e))/\Hid (ns.length=k)/\Hid (FSt w3 pv sv rows ns wr)) (fun i _ _ _=>A.length-(intOf i).toNat)
   case atStart=>exact⟨0,[],[],Nat.zero_le _,rfl,rfl,rfl,FSt.nil _⟩
   case round=>
    obtain⟨k,rows,ns,hk,rfl,hrl,hns,hst⟩:=hrel;have RL:Hid (rows.length=k):=by show _=_;have:=congrArg List.length hrl.out;rw[List.length_map,List.length_map,List.length_take] at this;omega
    obtain⟨ap,cp,rfl⟩:=aH hst.out.op;obtain⟨as',cs',rfl⟩:=aH hst.out.os
    by_cases hlt:k<A.length
    ·obtain⟨b,o,rfl,-,-⟩:=p4 (by omega)
     have c1:wr.cell? ⟨b,o+k,none⟩=some (A[k]'hlt).v:=by
      have:=bH (GA.out.tr hst.out.gr) HP.out rfl (i:=k) (by simpa using hlt);rw[List.getElem_map] at this;exact this
     have r1:=HA.out (A[k]'hlt) (List.getElem_mem hlt)
     have TK:Hid (∀ v:Value,(rows++[aI.mk v ((A[k]'hlt).l.map (scl z e))]).map aI.l=(A.take (k+1)).map fun r=>r.l.map (scl z e)):=fun v=>by
      rw[List.map_append,hrl.out,List.take_succ_eq_append_getElem hlt,List.map_append];rfl
     have BI:=Lh (AIN.out _ (List.getElem_mem hlt));have BL:Hid ((A[k]'hlt).l.length<=100000):=by show _<=_;have:=HL.out.2 _ (List.getElem_mem hlt);omega
     have NL:Hid (ns.length<=1000/\rows.length<=1000):=⟨by have:=hns.out;have:=HL.out.1;omega,by have:=RL.out;have:=HL.out.1;omega⟩
     have ST:=Lh hst.out;have NS:=Lh hns.out;clear p4 hrl hns hst RL;generalize A[k]'hlt=q at*;obtain⟨v1,l1⟩:=q;unfold aI.rd at r1;dsimp only at*;have r1:=Lh (r1.lt (by decide));have BZ1:=Lh (aC ST.out.gr BZ.out);go_wp2_with (refine wpList_load_row rfl 26 _ rfl (w.heap.size+1) rfl 26 _ _ _ BZ1.out Tryz.underlying26 rfl (by kernel_rfl) ?_)
     go_at_call 27;refine lS z e l1 v1 _ wr (r1.out.gr (by decide) (GA.out.tr ST.out.gr)) BL.out HZ.out BI.out ?_;intro r4 w4 hO4 hg4
     have NEW:Hid (aI.rd w4 (uV (.slice ap rows.length cp) (.slice as' ns.length cs')) ⟨r4,l1.map (scl z e)⟩):=by
      show Rd _ _ _ _ _ _;refine(Rd.own_from (aO hO4 (List.length_map (scl z e)).symm rfl)).into fun b hb=>ST.out.off hb
     have ST:=Lh (ST.out.tr hg4);obtain⟨A4,c4,rfl⟩:=aH hO4;clear hg4 hO4 c1 BZ1;go_upto_region 10 with (at_builtin;refine aM rfl _ _ rfl fY ST.out.op rfl 1 _ rfl _ rfl (by decide) rfl (by simp[Value.oneCell']) (by have:=NL.out.2;omega) ST.out.gr ⟨Nat.le_refl _,ST.out.gr.size⟩ ?_;intro v5 w5 hO5 hg5 hgr5 hb5)
     have ST:=Lh (ST.out.path (r:=⟨.slice A4 l1.length c4,l1.map (scl z e)⟩) hgr5 (aO hO5 (by simp) (by simp)) (hb5.elim .inl fun h=>.inr ⟨_,h,Nat.le_succ _⟩) NEW.out);obtain⟨A5,c5,rfl⟩:=aH hO5;clear hO5 hg5 hgr5 hb5 NEW;go_wp2_with fail
     go_at_call 28;refine iU l1 v1 _ _ (r1.out.gr (by decide) (GA.out.tr ST.out.gr)) ?_;intro w6 hg6;have ST:=Lh (ST.out.tr hg6);clear hg6;go_upto_region 11 with (at_builtin;refine aM rfl _ _ rfl qV ST.out.os rfl 1 _ rfl _ rfl (by decide) rfl (by simp[Value.oneCell']) (by have:=NL.out.1;omega) ST.out.gr ⟨Nat.le_refl _,ST.out.gr.size⟩ ?_;intro v7 w7 hO7 hg7 hgr7 hb7)
     have ST:=Lh (ST.out.sign (n:=dM (bP l1)) hgr7 (aO hO7 (by simp) (by simp[Is])) (hb7.elim .inl fun h=>.inr ⟨_,h,Nat.le_succ _⟩));clear hO7 hg7 hgr7 hb7;go_wp2;go_roundw
     case rel=>exact⟨k+1,_,_,by omega,by go_num,TK.out _,by rw[List.length_append];have:=NS.out;show _+1=_;omega,ST.out⟩
     case measure=>simp[intOf];omega
    ·obtain rfl:k=A.length:=by omega
     rw[List.take_length] at hrl
     have HPT:Hid ((rows.map aI.l).flatMap (fun p=>cF (cZ p (-z.b) (e+z.b)))=lnL z e (A.map aI.l)):=by
      show _=_;rw[hrl.out];unfold lnL iN;rw[List.flatMap_map,List.flatMap_map]
     have RQ:Hid (∀ r∈rows,r.rd wr (·<wr.heap.size)/\r.l.length<=400):=fun r hr=>⟨(hst.out.each r hr).lt (by decide),by
      have hm:r.l∈rows.map aI.l:=List.mem_map_of_mem hr;rw[hrl.out] at hm;obtain⟨a0,ha0,e0⟩:=List.mem_map.1 hm;rw[<-e0,List.length_map]
      exact HL.out.2 a0 ha0⟩
     have RLN:Hid (rows.length<=400):=by show _<=_;have:=RL.out;have:=HL.out.1;omega
     have RO:=Lh (Rd.own_lt hst.out.op);have GW:=Lh hst.out.gr;have BF:Hid (wr.heap[w.heap.size]? =some (.cells #[.bool h,.int .u64 id,.int .i64 ty,.slice pA A.length pc,.slice aA n ac] 44 (0,0))):=aC GW.out BF.out;have BR:=Lh (aC GW.out BR.out);have GA:=Lh (GA.out.tr GW.out);have te:(ty==1)=false:=by rw[beq_eq_false_iff_ne];have:=HTY.out;omega
     have te2:(ty==2)=true:=by rw[beq_iff_eq];exact HTY.out
     have LTR:Hid (w.heap.size+1+1<wr.heap.size):=lt_of_block BR.out;clear hst p4 hrl hns GW AIN RL;go_upto_region 13 with (refine wpList_load_row rfl 44 _ rfl w.heap.size rfl 44 _ _ _ BF.out Tryz.underlying44 rfl (by kernel_rfl) ?_)
     have BO:Hid (aN wr wr.heap.size #[.bool h,.int .u64 id,.int .i64 ty,.slice pA A.length pc,.slice aA n ac] 44 (wr.alloc (.cells #[.bool h,.int .u64 id,.int .i64 ty,.slice pA A.length pc,.slice aA n ac] 44))):=aN.laid _ _ (aB.refl wr);have SZ:Hid ((wr.alloc (.cells #[.bool h,.int .u64 id,.int .i64 ty,.slice pA A.length pc,.slice aA n ac] 44)).heap.size=wr.heap.size+1):=World.size_alloc _ _;generalize wr.alloc (.cells #[.bool h,.int .u64 id,.int .i64 ty,.slice pA A.length pc,.slice aA n ac] 44)=w5 at*
     obtain⟨bo,hbo⟩:∃ bo,bo=wr.heap.size:=⟨_,rfl⟩
     rw[<-hbo] at BO SZ ⊢
     have LBO:Hid (w.heap.size+1+1<bo/\wr.heap.size<=bo):=⟨by have:=LTR.out;omega,by omega⟩
     clear hbo;have f4:w5.cell? ⟨w.heap.size,4,none⟩=some (.slice aA n ac):=by rw[cell_of_row _ _ _ _ _ _ (aC BO.out.grow BF.out)];rfl
     go_wp2_with fail
     go_at_call 21;refine gE n xs _ Sa w5 (HAT.out.gr2 (by decide) (GA.out.tr BO.out.grow)) (by have:=HN.out;omega) H1.out ?_;intro r6 w6 hO6 hg6;have BO:=Lh (BO.out.tr hg6);have RAV:Hid (Rd w6 (fun b=>bo<b/\b<w6.heap.size) 4 r6 n xs):=(Rd.own hO6).into fun b hb=>by have:=hO6.lt b hb.symm;have:=SZ.out;omega
     obtain⟨A6,c6,rfl⟩:=aH hO6;clear hO6 hg6 f4;have z3:=BO.out.cell 3;have g3:=BO.out.free 3;have B1:=Lh (BO.out.set 3 (.slice none 0 0));have z4:=B1.out.cell 4;have g4:=B1.out.free 4;have B2:=Lh (B1.out.set 4 (.slice A6 n c6));simp only[sA,sZ,sS,List.getElem?_toArray,List.getElem?_cons_zero,List.getElem?_cons_succ] at z3 z4 B2
     have RAV:Hid (Rd ((w6.setCell ⟨bo,3,none⟩ (.slice none 0 0)).setCell ⟨bo,4,none⟩ (.slice A6 n c6)) (fun b=>bo<b/\b<w6.heap.size) 4 (.slice A6 n c6) n xs):=((RAV.out.set (fun b hb=>by omega) _).set (fun b hb=>by omega) _)
     have SZ2:Hid (((w6.setCell ⟨bo,3,none⟩ (.slice none 0 0)).setCell ⟨bo,4,none⟩ (.slice A6 n c6)).heap.size=w6.heap.size):=by show _=_;rw[dK,dK]
     go_upto_region 14 with fail
     clear z3 g3 z4 g4 B1;generalize (w6.setCell ⟨bo,3,none⟩ (.slice none 0 0)).setCell ⟨bo,4,none⟩ (.slice A6 n c6)=w7 at*;have f2:w7.cell? ⟨w.heap.size,2,none⟩=some (.int .i64 ty):=by rw[cell_of_row _ _ _ _ _ _ (aC B2.out.grow BF.out)];rfl
     go_wp2_with fail
     go_at_call 30;refine yT rows _ (-z.b) (e+z.b) _ (·<wr.heap.size) w7 (RO.out.gr (by decide) B2.out.grow) (fun r hr=>⟨(RQ.out r hr).1.gr2 (by decide) B2.out.grow,(RQ.out r hr).2⟩) RLN.out ?_;intro r8 rows8 w8 hO8 hN8 hL8 hg8;have B2:=Lh (B2.out.tr hg8);have L8:Hid (rows8.map aI.l=lnL z e (A.map aI.l)):=hL8.trans HPT.out;have RPT:Hid (Rd w8 (fun b=>bo<b/\b<w8.heap.size) 1 r8 rows8.length (rows8.map aI.v)):=(Rd.own hO8).into fun b hb=>by have:=hO8.lt b hb.symm;have:=SZ2.out;have:=BO.out.lt;omega
     have RPR:Hid (∀ r∈rows8,r.rd w8 (fun b=>bo<b)):=fun r hr=>(hN8 r hr).into fun b hb=>by have:=hb.2;have:=SZ2.out;have:=BO.out.lt;omega
     have RAV:Hid (Rd w8 (fun b=>bo<b/\b<w8.heap.size) 4 (.slice A6 n c6) n xs):=(RAV.out.gr2 (by decide) hg8).into fun b hb=>by have:=hg8.size;have:=SZ2.out;omega
     obtain⟨A8,c8,rfl⟩:=aH hO8;clear hO8 hN8 hL8 hg8 f2 BO SZ SZ2 te te2 RO RQ HPT;have BR:=Lh (aC B2.out.grow BR.out);have GA:=Lh (GA.out.tr B2.out.grow);have z3:=B2.out.cell 3;have g3:=B2.out.free 3;have B3:=Lh (B2.out.set 3 (.slice A8 rows8.length c8));simp only[sA,sZ,sS,List.getElem?_toArray,List.getElem?_cons_zero,List.getElem?_cons_succ] at z3 B3;go_upto_region 24 with fail
     clear z3 g3;have BR:=Lh (iT BR.out (show w.heap.size+1+1≠bo by have:=LBO.out;omega) 3 (.slice A8 rows8.length c8));have GA:=Lh (GA.out.set (p:=⟨bo,3,none⟩) (show w.heap.size<=bo by have:=LBO.out;omega) (.slice A8 rows8.length c8));have RAV:=Lh (RAV.out.set (B:=bo) (j:=3) (fun b hb=>by omega) (.slice A8 rows8.length c8));have RPT:=Lh (RPT.out.set (B:=bo) (j:=3) (fun b hb=>by omega) (.slice A8 rows8.length c8))
     have RPR:Hid (∀ r∈rows8,r.rd (w8.setCell ⟨bo,3,none⟩ (.slice A8 rows8.length c8)) (fun b=>bo<b)):=fun r hr=>Rd.set (RPR.out r hr) (fun b hb=>by omega) _
     generalize w8.setCell ⟨bo,3,none⟩ (.slice A8 rows8.length c8)=w9 at*;have z3:=B3.out.cell 3;simp only[List.getElem?_toArray,List.getElem?_cons_zero,List.getElem?_cons_succ] at z3;have BO3:=Lh B3.out.2.2
     obtain⟨m8,hm8⟩:∃ m8,m8=rows8.length:=⟨_,rfl⟩
     have HM8:=Lh hm8;rw[<-hm8] at z3 BO3 RPT ⊢;clear hm8 B2 B3
     by_cases h0:m8=0
     ·have PT0:Hid (lnL z e (A.map aI.l)=[]):=by
       show _=_;rw[<-L8.out,List.eq_nil_of_length_eq_zero (HM8.out.symm.trans h0)];rfl
      have t0:((m8:Int)==0)=true:=by rw[beq_iff_eq];omega
      clear L8 RPT RPR RAV;go_wp2_with (refine wpList_store_row rfl 44 _ _ rfl (w.heap.size+1+1) aV.cells.toArray rfl rfl 44 _ BR.out (by kernel_rfl) rfl (by simp[aV,Ft.cells,Value.oneCell']) ?_)
      refine bodyPost_ret (v:=.tuple #[.agg aV.cells.toArray,.bool false]) ?_ rfl (HBAD.out (fun _ _=>PT0.out) _ (GA.out.row2 (show w.heap.size<=w.heap.size+1+1 by omega) _));exact aQ rfl _ _ (w.heap.size+1+1) _ _ _ _ rfl (setRow_heap _ _ _ _ _ _ BR.out) rfl rfl Tryz.underlying44 (by kernel_rfl)
     ·have PT0:Hid (lnL z e (A.map aI.l)≠[]):=by
       show _≠_;rw[<-L8.out];intro h;have:=congrArg List.length h;rw[List.length_map] at this;exact h0 (HM8.out.trans this)
      have t0:((m8:Int)==0)=false:=by rw[beq_eq_false_iff_ne];omega
      go_wp2_with (first|(refine wpList_load_row rfl 44 _ rfl bo rfl 44 _ _ _ BO3.out Tryz.underlying44 rfl (by kernel_rfl) ?_)|(refine wpList_store_row rfl 44 _ _ rfl (w.heap.size+1+1) #[.bool h,.int .u64 id,.int .i64 ty,.slice A8 m8 c8,.slice A6 n c6] rfl rfl 44 _ BR.out (by kernel_rfl) rfl (by simp[Value.oneCell']) ?_))
      have kp:∀ b,bo<b->(w9.setRow (w.heap.size+1+1) #[.bool h,.int .u64 id,.int .i64 ty,.slice A8 m8 c8,.slice A6 n c6]).heap[b]? =w9.heap[b]? :=fun b hb=>setRow_other _ _ _ _ (by have:=LBO.out;omega)
      refine bodyPost_ret (v:=.tuple #[.agg #[.bool h,.int .u64 id,.int .i64 ty,.slice A8 m8 c8,.slice A6 n c6],.bool true]) ?_ rfl (HOK.out HZ.out HPR.out PT0.out (.slice A8 m8 c8) (.slice A6 n c6) rows8 _ (GA.out.row2 (show w.heap.size<=w.heap.size+1+1 by omega) _) ?_ ?_ L8.out ?_)
      ·exact aQ rfl _ _ (w.heap.size+1+1) _ _ _ _ rfl (setRow_heap _ _ _ _ _ _ BR.out) rfl rfl Tryz.underlying44 (by kernel_rfl)
      ·have:=(RPT.out.keep fun b hb=>kp b hb.1).into (T:=fun b=>w.heap.size<=b) fun b hb=>by show w.heap.size<=b;have:=hb.1;have:=LBO.out;omega
       rw[HM8.out] at this ⊢;exact this
      ·intro r hr
       exact(Rd.keep (RPR.out r hr) fun b hb=>kp b hb).into fun b hb=>by show w.heap.size<=b;have:=LBO.out;omega
      ·exact(RAV.out.keep fun b hb=>kp b hb.1).into fun b hb=>.inl (by have:=hb.1;have:=LBO.out;omega)
  ·have HPR:=Lh hpr
   have tp:(aT ty A != 0)=true:=by rw[bne_iff_ne];exact hpr
   generalize aT ty A=pr at*;clear hpr p4 hty;go_wp2_with (refine wpList_store_row rfl 44 _ _ rfl (w.heap.size+1+1) aV.cells.toArray rfl rfl 44 _ BR.out (by kernel_rfl) rfl (by simp[aV,Ft.cells,Value.oneCell']) ?_)
   refine bodyPost_ret (v:=.tuple #[.agg aV.cells.toArray,.bool false]) ?_ rfl (HBAD.out (fun _ h=>absurd h HPR.out) _ (GA.out.row2 (show w.heap.size<=w.heap.size+1+1 by omega) _));exact aQ rfl _ _ (w.heap.size+1+1) _ _ _ _ rfl (setRow_heap _ _ _ _ _ _ BR.out) rfl rfl Tryz.underlying44 (by kernel_rfl)
end Go.Proofs.YtjalimkajcjapaaGreatDoor
