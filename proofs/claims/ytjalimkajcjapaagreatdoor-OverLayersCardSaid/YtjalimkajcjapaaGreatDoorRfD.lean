import Derived.Test.YtjalimkajcjapaaGreatDoorRfC
namespace Go.Proofs.YtjalimkajcjapaaGreatDoor
set_option maxRecDepth 100000
open Go.RowKit B
set_option maxHeartbeats 16000000 in
theorem tT (f:Ft)(z:Zm)(e:Int)(A:List aI)(n:Nat)(xs:List Value)(S S' Sa:Nat->Prop)(w:World)(hp:Rd w S 1 f.pv A.length (A.map aI.v))(hA:∀ r∈A,r.rd w S')(ha:Rd w Sa 4 f.av n xs)(h1:∀ u∈xs,u.oneCell'=true)(hn:n*48<=140737488355328)(hl:A.length<=400/\∀ r∈A,r.l.length<=400)
  {R:Ending->World->Prop}
  (hbad:(aS z e=true->aT f.ty A=0->dH f.ty z e (A.map aI.l)=[])->∀ w',aB w w'->R (.returned (.tuple #[.agg aV.cells.toArray,.bool false])) w')
  (hok:aS z e=true->aT f.ty A=0->dH f.ty z e (A.map aI.l)≠[]->∀ (pv av:Value) (rows:List aI) (w':World),aB w w'->Rd w' (fun b=>w.heap.size<=b) 1 pv rows.length (rows.map aI.v)->(∀ r∈rows,r.rd w' (fun b=>w.heap.size<=b))->rows.map aI.l=dH f.ty z e (A.map aI.l)->Rd w' (fun b=>w.heap.size<=b∨Sa b) 4 av n xs->R (.returned (.tuple #[.agg (⟨f.h,f.id,f.ty,pv,av⟩:Ft).cells.toArray,.bool true])) w'):
  Calls Tryz.prog 20 #[.agg f.cells.toArray,.agg z.cells.toArray,.int .i64 e] w R:=by
 have HBAD:=Lh hbad;have HOK:=Lh hok;clear hbad hok;have hp:=hp.lt (by decide);have HP:=Lh hp;have HA:=Lh hA;have HAT:=Lh ha;obtain⟨_,aA,ac,hav,-,-,-,-⟩:=ha;have H1:=Lh h1;have HN:=Lh hn;have HL:=Lh hl;clear hA h1 hn;obtain⟨h,id,ty,pv,av⟩:=f;dsimp only at*;subst hav;obtain⟨_,pA,pc,rfl,p1,p2,p3,p4⟩:=hp;unfold maxLen at p2;have OR:=Lh fun W (R:Ending->World->Prop) hR=>mN z e W (R:=R) hR
 have PR:=Lh fun W (hg:aB w W) (R:Ending->World->Prop) hR=>kL ty _ A _ _ W (HP.out.gr (by decide) hg) (fun r hr=>(HA.out r hr).gr2 (by decide) hg) (R:=R) hR
 obtain⟨wa,hwa⟩:∃ wa,wa=((w.alloc (.cells (⟨h,id,ty,.slice pA A.length pc,.slice aA n ac⟩:Ft).cells.toArray 44)).alloc (.cells z.cells.toArray 26)).alloc (.cells aV.cells.toArray 44):=⟨_,rfl⟩
 have GA:Hid (aB w wa):=by subst hwa;exact(((aB.refl _).al _).al _).al _
 have BF:Hid (wa.heap[w.heap.size]? =some (.cells (⟨h,id,ty,.slice pA A.length pc,.slice aA n ac⟩:Ft).cells.toArray 44 (0,0))):=by
  rw[hwa];exact aC (((aB.refl _).al _).al _) (heap_alloc_new w _)
 have BZ:Hid (wa.heap[w.heap.size+1]? =some (.cells z.cells.toArray 26 (0,0))):=by
  have:=aC ((aB.refl _).al (.cells aV.cells.toArray 44)) (heap_alloc_new (w.alloc (.cells (⟨h,id,ty,.slice pA A.length pc,.slice aA n ac⟩:Ft).cells.toArray 44)) (.cells z.cells.toArray 26));rw[World.size_alloc] at this;rw[hwa];exact this
 have BR:Hid (wa.heap[w.heap.size+1+1]? =some (.cells aV.cells.toArray 44 (0,0))):=by
  have:=heap_alloc_new ((w.alloc (.cells (⟨h,id,ty,.slice pA A.length pc,.slice aA n ac⟩:Ft).cells.toArray 44)).alloc (.cells z.cells.toArray 26)) (.cells aV.cells.toArray 44);rw[World.size_alloc,World.size_alloc] at this;rw[hwa];exact this
 have LTF:Hid (w.heap.size+1+1<wa.heap.size):=lt_of_block BR.out;go_enter Tryz.func20,Tryz.ntmps20
 go_upto_region 1 with fail
 rw[show ((w.alloc (.cells (⟨h,id,ty,.slice pA A.length pc,.slice aA n ac⟩:Ft).cells.toArray 44)).alloc (.cells z.cells.toArray 26)).alloc (.cells #[.bool false,.int .u64 0,.int .i64 0,.slice none 0 0,.slice none 0 0] 44)=wa from hwa.symm];clear hwa;go_wp2_with (refine wpList_load_row rfl 26 _ rfl (w.heap.size+1) rfl 26 _ _ _ BZ.out Tryz.underlying26 rfl (by kernel_rfl) ?_)
 go_at_call 19;refine OR.out _ _ ?_;intro w1 hg1;have BF:=Lh (aC hg1 BF.out);have BZ:=Lh (aC hg1 BZ.out);have BR:=Lh (aC hg1 BR.out);have GA:=Lh (GA.out.tr hg1);clear hg1 OR
 cases hz:aS z e with
 |false=>
  have HZ:=Lh hz;clear hz PR p4;go_wp2_with (refine wpList_store_row rfl 44 _ _ rfl (w.heap.size+1+1) aV.cells.toArray rfl rfl 44 _ BR.out (by kernel_rfl) rfl (by simp[aV,Ft.cells,Value.oneCell']) ?_)
  refine bodyPost_ret (v:=.tuple #[.agg aV.cells.toArray,.bool false]) ?_ rfl (HBAD.out (fun h=>by rw[HZ.out] at h;cases h) _ (GA.out.row2 (show w.heap.size<=w.heap.size+1+1 by omega) _));exact aQ rfl _ _ (w.heap.size+1+1) _ _ _ _ rfl (setRow_heap _ _ _ _ _ _ BR.out) rfl rfl Tryz.underlying44 (by kernel_rfl)
 |true=>
  have HZ:=Lh hz;clear hz;have f2:=cell_of_row _ w.heap.size 2 _ _ (0,0) BF.out;have f3:=cell_of_row _ w.heap.size 3 _ _ (0,0) BF.out;unfold Ft.cells at f2 f3;simp only[List.getElem?_toArray,List.getElem?_cons_zero,List.getElem?_cons_succ] at f2 f3;go_wp2_with fail
  go_at_call 23;refine PR.out _ GA.out _ ?_;intro w2 hg2;have BF:=Lh (aC hg2 BF.out);have BZ:=Lh (aC hg2 BZ.out);have BR:=Lh (aC hg2 BR.out);have GA:=Lh (GA.out.tr hg2);clear hg2 f2 f3 PR
  by_cases hpr:aT ty A=0
  ·have HPR:=Lh hpr
   obtain⟨ty1,ty3,-⟩:=pZ hpr;rw[hpr];clear hpr;obtain⟨r1,r2,r3,r4,r5,r6,r7,r8,r9,r10⟩:=bA HZ.out;obtain⟨al0,al1,ain⟩:=fW HPR.out;have AIN:=Lh ain;have w1':IntKind.i64.wrap (-z.b)=-z.b:=IntWalk.i64_in _ (by omega);have w2':IntKind.i64.wrap (e+z.b)=e+z.b:=IntWalk.i64_in _ (by omega);have LOHI:=Lh (And.intro w1' w2');clear w1' w2' r1 r2 r3 r4 r5 r6 r7 r8 r9 r10 al0 al1 ain;go_upto_region 3 with fail
   refine aE (aB w2.drew) ((aB.refl _)) 8 [0,1,2,3,4,5,6,7] (by kernel_rfl) (by kernel_rfl) (by intro c a d v w h;cases d<;>exact h) ?_;have GD:=Lh ((aB.refl w2).dr);have BF:=Lh (aC GD.out BF.out);have BZ:=Lh (aC GD.out BZ.out);have BR:=Lh (aC GD.out BR.out);have GA:=Lh (GA.out.tr GD.out);clear GD;generalize w2.drew=w3 at*;have ZC:Hid (∀ W,aB w3 W->W.cell? ⟨w.heap.size+1,3,none⟩=some (.int .i64 z.b)):=fun W hW=>by rw[cell_of_row _ _ _ _ _ _ (aC hW BZ.out)];rfl
   iterate 8 (apply aD;exact rfl;exact rfl;(intro W hW;have z3:=ZC.out W hW;(try clear hW);go_simp;with_reducible rfl);try simp only[Act.put,sA,sZ,sS])
   refine aK ?_;simp only[List.drop_succ_cons,List.drop_zero];clear ZC;have LT3:Hid (w.heap.size+1+1<w3.heap.size):=lt_of_block BR.out
   have LH:Hid (I64 (-z.b)/\I64 (e+z.b)/\-1000000<=-z.b/\e+z.b<=1000000):=by
    obtain⟨h1,h2,-,-,h5,h6,-⟩:=bA HZ.out;show _/\_/\_;unfold I64;omega
   have FC:Hid (∀ W,aB w3 W->W.cell? ⟨w.heap.size,2,none⟩=some (.int .i64 ty)/\W.cell? ⟨w.heap.size,3,none⟩=some (.slice pA A.length pc)):=fun W hW=>⟨by rw[cell_of_row _ _ _ _ _ _ (aC hW BF.out)];rfl,by rw[cell_of_row _ _ _ _ _ _ (aC hW BF.out)];rfl⟩
   go_upto_region 4 with fail
   simp only[LOHI.out.1,LOHI.out.2];clear LOHI
   by_cases t1:ty=1
   ·have tt1:(ty==1)=true:=by rw[beq_iff_eq];exact t1
    have tt2:(ty==2)=false:=by rw[beq_eq_false_iff_ne];omega
    have tt3:(ty==3)=false:=by rw[beq_eq_false_iff_ne];omega
    have hl1:A.length=1:=(fW HPR.out).2.1 t1;obtain⟨a0,hA0⟩:∃ a0,A=[a0]:=List.length_eq_one_iff.1 hl1
    have EF:Hid (dH ty z e (A.map aI.l)=if wD z e a0.l=[] then[] else[wD z e a0.l]):=by
     show _=_;unfold dH ptL;rw[if_pos t1,hA0];rfl
    have q1:=HA.out a0 (by rw[hA0];simp);have QL:=Lh (HL.out.2 a0 (by rw[hA0];simp));have QI:=Lh (AIN.out a0 (by rw[hA0];simp));obtain⟨b,o,rfl,-,-⟩:=p4 (by omega)
    have C0:Hid (∀ W,aB w W->W.cell? ⟨b,o,none⟩=some a0.v):=fun W hW=>by
     have:=bH hW HP.out rfl (i:=0) (by simp;omega);rw[List.getElem_map] at this;simp only[hA0,List.getElem_cons_zero] at this;exact this
    clear p4 t1 hA0;obtain⟨v,l⟩:=a0;unfold aI.rd at q1;dsimp only at*;have q1:=q1.lt (by decide);have Q1:=Lh q1;obtain⟨_,vA,vc,rfl,-,-,-,-⟩:=q1;obtain⟨f2,f3⟩:=FC.out _ (aB.refl _);go_upto_region 7 with fail
    clear f2 f3;refine aE (aB w3.drew) ((aB.refl _)) 6 [0,1,2,3,4,5] (by kernel_rfl) (by kernel_rfl) (by intro c a d v w h;cases d<;>exact h) ?_;have GW:Hid (aB w3 w3.drew):=(aB.refl _).dr;generalize w3.drew=w4 at*
    iterate 4 (apply aD;exact rfl;exact rfl;(intro W hW;obtain⟨f2,f3⟩:=FC.out _ (GW.out.tr hW);have c0:=C0.out _ (GA.out.tr (GW.out.tr hW));(try clear hW);go_simp;with_reducible rfl);try simp only[Act.put,sA,sZ,sS])
    apply aD;exact rfl;exact rfl;(intro W hW;exact aP 26 _ rfl (w.heap.size+1) rfl 26 _ _ _ (aC (GW.out.tr hW) BZ.out) rfl Tryz.underlying26 (by kernel_rfl))
    try simp only[Act.put,sA,sZ,sS]
    iterate 1 (apply aD;exact rfl;exact rfl;(intro W hW;(try clear hW);go_simp;with_reducible rfl);try simp only[Act.put,sA,sZ,sS])
    refine aK ?_;simp only[List.drop_succ_cons,List.drop_zero];clear C0;go_wp2_with fail
    go_at_call 35;refine iR z e l _ _ w4 (Q1.out.gr2 (by decide) (GA.out.tr GW.out)) (by have:=QL.out;omega) HZ.out QI.out ?_;intro s1 w5 hO1 hg1;have GW:=Lh (GW.out.tr hg1);have L35:Hid (w3.heap.size<=w5.heap.size):=GW.out.size;have hO1':w5.ownsRow w4.heap.size 51 2 s1 (l.map (scl z e)).length (Pts (l.map (scl z e))):=aO hO1 (List.length_map ..).symm rfl;have EF:Hid (dH ty z e (A.map aI.l)=if ((l.map (scl z e)).filter fun p=>p.inside (-z.b) (e+z.b))=[] then[] else[(l.map (scl z e)).filter fun p=>p.inside (-z.b) (e+z.b)]):=EF.out
    have SL:Hid ((l.map (scl z e)).length<=400):=by show _<=_;rw[List.length_map];exact QL.out
    generalize l.map (scl z e)=sl at*;obtain⟨vA1,vc1,rfl⟩:=aH hO1';obtain⟨_,vA1',vc1',hv,k1,k2,-,k4⟩:=Rd.own_lt hO1';injection hv with e1 e2 e3
    clear e2;subst e1 e3;unfold maxLen at k2;have GX:Hid (aB w5 w5):=aB.refl _;clear hO1 hO1' hg1 QL QI Q1;go_upto_region 8 with fail
    go_wp2_with fail
    go_loopw [13,11] (fun i s wr=>∃ (k:Nat),k<=sl.length/\i=.int .i64 k/\wr.ownsRow w5.heap.size 51 2 s ((sl.take k).filter fun p=>p.inside (-z.b) (e+z.b)).length (Pts ((sl.take k).filter fun p=>p.inside (-z.b) (e+z.b)))/\Hid (aB w5 wr)) (fun i _ _=>sl.length-(intOf i).toNat)
    case atStart=>exact⟨0,Nat.zero_le _,rfl,World.ownsRow_nil _ _ _ _,aB.refl _⟩
    case round=>
     obtain⟨k,hk,rfl,hown,hg⟩:=hrel
     by_cases hlt:k<sl.length
     ·obtain⟨b1,o1,rfl,hS1,hc1⟩:=k4 (by omega)
      have e0:=aL Pt.cells_len hg.out hS1 hc1 hlt;have IP:=Lh fun W (R:Ending->World->Prop) hR=>qL (sl[k]'hlt) (-z.b) (e+z.b) W (R:=R) hR
      have FS:Hid ((sl.take (k+1)).filter (fun p=>p.inside (-z.b) (e+z.b))=(sl.take k).filter (fun p=>p.inside (-z.b) (e+z.b))++(if (sl[k]'hlt).inside (-z.b) (e+z.b)=true then[sl[k]'hlt] else[])):=by
       show _=_;rw[List.take_succ_eq_append_getElem hlt,List.filter_append];simp only[List.filter_cons,List.filter_nil]
      have FLN:Hid (((sl.take k).filter fun p=>p.inside (-z.b) (e+z.b)).length<=400):=by
       show _<=_;have:=List.length_filter_le (fun p:Pt=>p.inside (-z.b) (e+z.b)) (sl.take k);rw[List.length_take] at this;have:=SL.out;omega
      have HO:=Lh hown;clear hown hc1 k4;generalize sl[k]'hlt=x at*;obtain⟨xa,xb⟩:=x;have x0:=e0 0 _ rfl;have x1:=e0 1 _ rfl;simp only[Nat.add_zero] at x0;unfold Pt.cells at IP;dsimp only at IP;clear e0;generalize (sl.take k).filter (fun p=>p.inside (-z.b) (e+z.b))=fk at*;go_wp2_with fail
      go_at_call 36;refine IP.out _ _ ?_;intro w7 hg7;have x0:=(hg7.cell (p:=⟨b1,o1+k*2,none⟩) (Nat.lt_of_lt_of_le hS1 hg.out.size)).trans x0;have x1:=(hg7.cell (p:=⟨b1,o1+k*2+1,none⟩) (Nat.lt_of_lt_of_le hS1 hg.out.size)).trans x1;have HO:=Lh (aJ HO.out hg7);have hg:=Lh (hg.out.tr hg7);clear hg7 IP
      cases hin:(⟨xa,xb⟩:Pt).inside (-z.b) (e+z.b) with
      |false=>
       have F2:Hid ((sl.take (k+1)).filter (fun p=>p.inside (-z.b) (e+z.b))=fk):=by show _=_;rw[FS.out,hin,if_neg (by decide),List.append_nil]
       clear hin FS x0 x1;go_wp2;go_roundw
       case rel=>exact⟨k+1,by omega,by go_num,aO HO.out (by rw[F2.out]) (by rw[F2.out]),hg.out⟩
       case measure=>simp[intOf];omega
      |true=>
       have F2:Hid ((sl.take (k+1)).filter (fun p=>p.inside (-z.b) (e+z.b))=fk++[⟨xa,xb⟩]):=by show _=_;rw[FS.out,hin,if_pos rfl]
       clear hin FS;go_upto_region 10 with (at_builtin;refine aM rfl _ _ rfl gM HO.out rfl 1 _ rfl _ rfl (by decide) rfl (by simp[Value.oneCell']) (by have:=FLN.out;omega) hg.out ⟨Nat.le_refl _,hg.out.size⟩ ?_;intro v8 w8 hO8 hg8 hgr8 hb8)
       have HO8:Hid (w8.ownsRow w5.heap.size 51 2 v8 ((sl.take (k+1)).filter (fun p=>p.inside (-z.b) (e+z.b))).length (Pts ((sl.take (k+1)).filter (fun p=>p.inside (-z.b) (e+z.b))))):=by
        refine aO hO8 (by rw[F2.out];simp) ?_;rw[F2.out,gF];rfl
       have HG8:=Lh hg8;clear hO8 hg8 hgr8 hb8 x0 x1 HO F2;go_wp2;go_roundw
       case rel=>exact⟨k+1,by omega,by go_num,HO8.out,HG8.out⟩
       case measure=>simp[intOf];omega
     ·obtain rfl:k=sl.length:=by omega
      rw[List.take_length] at hown;generalize sl.filter (fun p=>p.inside (-z.b) (e+z.b))=fl at*;have GW:=Lh (GW.out.tr hg.out);obtain⟨fA,fc,rfl⟩:=aH hown;have FO:=Lh hown;have LWR:Hid (w5.heap.size<=wr.heap.size):=hg.out.size;clear hown k4 hg GX
      by_cases h0:fl=[]
      ·have t0:decide ((0:Int)<(fl.length:Int))=false:=by rw[decide_eq_false_iff_not,h0];simp
       have hnp:¬ 0<fl.length:=by rw[h0];simp
       have PT0:Hid (dH ty z e (A.map aI.l)=[]):=by show _=_;rw[EF.out,if_pos h0]
       clear h0 EF FO;go_upto_region 15 with fail
       go_wp2_with fail
       go_loopw [14,10] (fun i s wq=>i=.int .i64 0/\s=.slice none 0 0/\wq=wr) (fun _ _ _=>0)
       case atStart=>exact⟨rfl,rfl,rfl⟩
       case round=>
        obtain⟨rfl,rfl,rfl⟩:=hrel;obtain⟨f2,f3⟩:=FC.out _ GW.out;have BF:=Lh (aC GW.out BF.out);have BR:=Lh (aC GW.out BR.out);have GA:=Lh (GA.out.tr GW.out);clear FC t0;go_wp2_with (refine wpList_store_row rfl 44 _ _ rfl (w.heap.size+1+1) aV.cells.toArray rfl rfl 44 _ BR.out (by kernel_rfl) rfl (by simp[aV,Ft.cells,Value.oneCell']) ?_)
        refine bodyPost_ret (v:=.tuple #[.agg aV.cells.toArray,.bool false]) ?_ rfl (HBAD.out (fun _ _=>PT0.out) _ (GA.out.row2 (show w.heap.size<=w.heap.size+1+1 by omega) _));exact aQ rfl _ _ (w.heap.size+1+1) _ _ _ _ rfl (setRow_heap _ _ _ _ _ _ BR.out) rfl rfl Tryz.underlying44 (by kernel_rfl)
      ·have t0:decide ((0:Int)<(fl.length:Int))=true:=by rw[decide_eq_true_eq];have:=List.length_pos_iff.2 h0;omega
       have hnp:0<fl.length:=List.length_pos_iff.2 h0;have PT0:Hid (dH ty z e (A.map aI.l)≠[]):=by show _≠_;rw[EF.out,if_neg h0];simp
       have L8:Hid ([(⟨.slice fA fl.length fc,fl⟩:aI)].map aI.l=dH ty z e (A.map aI.l)):=by show _=_;rw[EF.out,if_neg h0];rfl
       clear h0 EF;go_upto_region 15 with fail
       have NB:Hid (Rd (wr.alloc (.cells #[.slice fA fl.length fc] 58)) (fun b=>b=wr.heap.size) 1 (.slice (some ⟨wr.heap.size,0,none⟩) 1 1) 1 [.slice fA fl.length fc]):=Rd.lit wr #[.slice fA fl.length fc] 58 1 (by decide) rfl;have GL:Hid (aB wr (wr.alloc (.cells #[.slice fA fl.length fc] 58))):=(aB.refl _).al _;have FR:Hid (Rd (wr.alloc (.cells #[.slice fA fl.length fc] 58)) (fun b=>w5.heap.size<=b) 2 (.slice fA fl.length fc) fl.length (Pts fl)):=(Rd.own_from FO.out).gr2 (by decide) GL.out;have GW:=Lh (GW.out.tr GL.out);clear FO
       generalize wr.alloc (.cells #[.slice fA fl.length fc] 58)=w9 at*
       obtain⟨A8,hA8⟩:∃ A8:Option Addr,A8=some ⟨wr.heap.size,0,none⟩:=⟨_,rfl⟩
       rw[<-hA8] at NB ⊢
       obtain⟨c8,hc8⟩:∃ c8:Nat,c8=1:=⟨_,rfl⟩
       have NB:Hid (Rd w9 (fun b=>b=wr.heap.size) 1 (.slice A8 1 c8) 1 [.slice fA fl.length fc]):=by show Rd _ _ _ _ _ _;rw[hc8];exact NB.out
       go_wp2_with fail
       go_loopw [14,10] (fun i s wq=>i=.int .i64 0/\s=.slice A8 1 c8/\wq=w9) (fun _ _ _=>0)
       case atStart=>exact⟨rfl,by rw[hc8],rfl⟩
       case round=>
        obtain⟨rfl,rfl,rfl⟩:=hrel;clear hc8;obtain⟨f2,f3⟩:=FC.out _ GW.out;have BF:=Lh (aC GW.out BF.out);have BR:=Lh (aC GW.out BR.out);have GE:=Lh (GA.out.tr GW.out);have RPT:Hid (Rd wr (fun b=>w.heap.size+1+1<b) 1 (.slice A8 1 c8) 1 ([(⟨.slice fA fl.length fc,fl⟩:aI)].map aI.v)):=NB.out.into fun b hb=>by have:=LT3.out;have:=L35.out;have:=LWR.out;omega
        have RPR:Hid (∀ r∈[(⟨.slice fA fl.length fc,fl⟩:aI)],r.rd wr (fun b=>w.heap.size+1+1<b)):=fun r hr=>by
         rw[List.mem_singleton.1 hr];exact FR.out.into fun b hb=>by have:=LT3.out;have:=L35.out;omega
        have RAV:=Lh ((HAT.out.and_lt (by decide)).gr2 (by decide) GE.out);have HM8:Hid (1=[(⟨.slice fA fl.length fc,fl⟩:aI)].length):=rfl;have t1':((1:Int)==0)=false:=rfl
        obtain⟨rows8,hrows⟩:∃ rows8,rows8=[(⟨.slice fA fl.length fc,fl⟩:aI)]:=⟨_,rfl⟩
        rw[<-hrows] at RPT RPR HM8 L8;have t0:=t1';clear hrows NB FR hA8 hnp t1';have y3:=cell_of_row _ w.heap.size 3 _ _ (0,0) BF.out;have g3:=frozen_of_row _ w.heap.size 3 _ _ BF.out;have B3:=Lh (aF BF.out 3 (.slice A8 1 c8));unfold Ft.cells at y3 B3;simp only[sA,sZ,sS,List.getElem?_toArray,List.getElem?_cons_zero,List.getElem?_cons_succ] at y3 B3;clear FC;go_upto_region 30 with fail
        clear y3 g3;have BR:=Lh (iT BR.out (show w.heap.size+1+1≠w.heap.size by omega) 3 (.slice A8 1 c8));have GE:=Lh (GE.out.set (p:=⟨w.heap.size,3,none⟩) (Nat.le_refl _) (.slice A8 1 c8));have RPT:=Lh (RPT.out.set (B:=w.heap.size) (j:=3) (fun b hb=>by omega) (.slice A8 1 c8));have RPR:Hid (∀ r∈rows8,r.rd (wr.setCell ⟨w.heap.size,3,none⟩ (.slice A8 1 c8)) (fun b=>w.heap.size+1+1<b)):=fun r hr=>Rd.set (RPR.out r hr) (fun b hb=>by omega) _
        have RAV:=Lh (RAV.out.set (B:=w.heap.size) (j:=3) (fun b hb=>by have:=hb.2;omega) (.slice A8 1 c8));generalize wr.setCell ⟨w.heap.size,3,none⟩ (.slice A8 1 c8)=wF at*;go_wp2_with (first|(refine wpList_load_row rfl 44 _ rfl w.heap.size rfl 44 _ _ _ B3.out Tryz.underlying44 rfl (by kernel_rfl) ?_)|(refine wpList_store_row rfl 44 _ _ rfl (w.heap.size+1+1) #[.bool h,.int .u64 id,.int .i64 ty,.slice A8 1 c8,.slice aA n ac] rfl rfl 44 _ BR.out (by kernel_rfl) rfl (by simp[Value.oneCell']) ?_))
        have kp:∀ b,w.heap.size+1+1≠b->(wF.setRow (w.heap.size+1+1) #[.bool h,.int .u64 id,.int .i64 ty,.slice A8 1 c8,.slice aA n ac]).heap[b]? =wF.heap[b]? :=fun b hb=>setRow_other _ _ _ _ (by omega)
        refine bodyPost_ret (v:=.tuple #[.agg #[.bool h,.int .u64 id,.int .i64 ty,.slice A8 1 c8,.slice aA n ac],.bool true]) ?_ rfl (HOK.out HZ.out HPR.out PT0.out (.slice A8 1 c8) (.slice aA n ac) rows8 _ (GE.out.row2 (show w.heap.size<=w.heap.size+1+1 by omega) _) ?_ ?_ L8.out ?_)
        ·exact aQ rfl _ _ (w.heap.size+1+1) _ _ _ _ rfl (setRow_heap _ _ _ _ _ _ BR.out) rfl rfl Tryz.underlying44 (by kernel_rfl)
        ·have:=(RPT.out.keep fun b hb=>kp b (by omega)).into (T:=fun b=>w.heap.size<=b) fun b hb=>by show w.heap.size<=b;omega
         rw[HM8.out] at this ⊢;exact this
        ·intro r hr
         exact(Rd.keep (RPR.out r hr) fun b hb=>kp b (by omega)).into fun b hb=>by show w.heap.size<=b;omega
        ·exact(RAV.out.keep fun b hb=>kp b (by have:=hb.2;omega)).into fun b hb=>.inr hb.1
   ·by_cases t2:ty=2
    ·have tt1:(ty==1)=false:=by rw[beq_eq_false_iff_ne];omega
     have tt2:(ty==2)=true:=by rw[beq_iff_eq];exact t2
     have tt3:(ty==3)=false:=by rw[beq_eq_false_iff_ne];omega
     have EF:Hid (dH ty z e (A.map aI.l)=(A.map aI.l).flatMap (iN z e)):=by
      show _=_;unfold dH;rw[if_neg t1,if_pos t2]
     clear t1 t2;have GW:Hid (aB w3 w3):=aB.refl _;obtain⟨f2,f3⟩:=FC.out _ GW.out;go_upto_region 15 with fail
     go_wp2_with fail
     clear f2 f3
     go_loopw [14,10] (fun i s wr=>∃ (k:Nat) (rows:List aI),k<=A.length/\i=.int .i64 k/\wr.ownsRow w3.heap.size 58 1 s rows.length (rows.map aI.v)/\Hid (dF w3.heap.size wr s rows)/\Hid (rows.map aI.l=((A.take k).map aI.l).flatMap (iN z e))/\Hid (rows.length<=401*k)/\Hid (aB w3 wr)) (fun i _ _=>A.length-(intOf i).toNat)
     case atStart=>exact⟨0,[],Nat.zero_le _,rfl,World.ownsRow_nil _ _ _ _,fun r hr=>by simp at hr,rfl,Nat.zero_le _,aB.refl _⟩
     case round=>
      obtain⟨k,rows,hk,rfl,hown,hin,hls,hrn,hg⟩:=hrel;obtain⟨ap,cp,rfl⟩:=aH hown;obtain⟨f2,f3⟩:=FC.out _ hg.out
      by_cases hlt:k<A.length
      ·obtain⟨b,o,rfl,-,-⟩:=p4 (by omega)
       have C0:Hid (∀ W,aB w W->W.cell? ⟨b,o+k,none⟩=some (A[k]'hlt).v):=fun W hW=>by
        have:=bH hW HP.out rfl (i:=k) (by simpa using hlt);rw[List.getElem_map] at this;exact this
       have q1:=HA.out (A[k]'hlt) (List.getElem_mem hlt);have QL:=Lh (HL.out.2 (A[k]'hlt) (List.getElem_mem hlt));have QI:=Lh (AIN.out (A[k]'hlt) (List.getElem_mem hlt))
       have LS:Hid (((A.take (k+1)).map aI.l).flatMap (iN z e)=((A.take k).map aI.l).flatMap (iN z e)++iN z e (A[k]'hlt).l):=by
        show _=_;rw[List.take_succ_eq_append_getElem hlt,List.map_append,List.flatMap_append];simp
       have HO:=Lh hown;have HRN:=Lh hrn.out;clear p4 hown hrn;generalize A[k]'hlt=q at*;obtain⟨v,l⟩:=q;unfold aI.rd at q1;dsimp only at*;have q1:=q1.lt (by decide);have Q1:=Lh q1;obtain⟨_,vA,vc,rfl,-,-,-,-⟩:=q1
       have SOK:Hid (∀ p∈l.map (scl z e),p.ok):=fun p hp=>by
        obtain⟨q,hq,rfl⟩:=List.mem_map.1 hp;exact yG HZ.out (QI.out q hq).1 (QI.out q hq).2
       have LQ:=Lh (lineL_q (l:=l) HZ.out QI.out);have LE:=Lh (pU (l:=l) HZ.out QI.out);go_upto_region 18 with fail
       clear f2 f3;refine aE (aB wr.drew) ((aB.refl _)) 10 [0,1,2,3,4,5,6,8,9,7] (by kernel_rfl) (by kernel_rfl) (by intro c a d v w h;cases d<;>exact h) ?_;have GW:Hid (aB w3 wr.drew):=hg.out.tr (aB.refl _).dr;have HO:=Lh (aJ HO.out (aB.refl wr).dr);have IN:Hid (dF w3.heap.size wr.drew (.slice ap rows.length cp) rows):=hin.out.grow (aB.refl wr).dr;generalize wr.drew=w4 at*
       iterate 5 (apply aD;exact rfl;exact rfl;(intro W hW;obtain⟨f2,f3⟩:=FC.out _ (GW.out.tr hW);have c0:=C0.out _ (GA.out.tr (GW.out.tr hW));(try clear hW);go_simp;with_reducible rfl);try simp only[Act.put,sA,sZ,sS])
       apply aD;exact rfl;exact rfl;(intro W hW;exact aP 26 _ rfl (w.heap.size+1) rfl 26 _ _ _ (aC (GW.out.tr hW) BZ.out) rfl Tryz.underlying26 (by kernel_rfl))
       try simp only[Act.put,sA,sZ,sS]
       iterate 3 (apply aD;exact rfl;exact rfl;(intro W hW;(try clear hW);go_simp;with_reducible rfl);try simp only[Act.put,sA,sZ,sS])
       apply aG;exact rfl;exact rfl;exact rfl;intro K hK;go_simp;go_at_call 35;refine iR z e l _ _ w4 (Q1.out.gr2 (by decide) (GA.out.tr GW.out)) (by have:=QL.out;omega) HZ.out QI.out ?_;intro s1 w5 hO1 hg1;refine hK.out _ _ hg1 ?_;clear hK
       try simp only[Act.put,sA,sZ,sS]
       refine aK ?_;simp only[List.drop_succ_cons,List.drop_zero];clear C0;have HO:=Lh (aJ HO.out hg1);have IN:=Lh (IN.out.grow hg1);have GW:=Lh (GW.out.tr hg1)
       have RS1:Hid (Rd w5 (fun b=>some b=s1.ownBlock) 2 s1 (l.map (scl z e)).length (Pts (l.map (scl z e)))):=by
        have:=Rd.own hO1;rw[List.length_map];exact this
       clear hO1 hg1 hin;go_wp2_with fail
       go_at_call 37;refine rclip_any (l.map (scl z e)) (-z.b) (e+z.b) _ _ w5 RS1.out (by rw[List.length_map];have:=QL.out;omega) SOK.out LH.out.1 LH.out.2.1 ?_;intro s2 rows5 w6 hO2 hq2 hr2 hg2;have HO:=Lh (aJ HO.out hg2);have IN:=Lh (IN.out.grow hg2);have GW:=Lh (GW.out.tr hg2);have CLW:=Lh (nG LE.out);have CLN:=Lh (sX (l.map (scl z e)) (-z.b) (e+z.b))
       have RQE:Hid (rows5.map (fun x=>x.l.map PV.q)=(cZ (l.map (scl z e)) (-z.b) (e+z.b)).map (List.map aW.pq)):=by
        show _=_;rw[CLW.out.1];exact hq2
       have LR5:Hid (rows5.length<=401):=by
        show _<=_;have h1:=congrArg List.length RQE.out;rw[List.length_map,List.length_map] at h1;have:=CLN.out.1;rw[List.length_map] at this;have:=QL.out;omega
       have EACH:Hid (∀ x∈rows5,x.l.length<=1000/\∀ p∈x.l,(((-z.b:Int):Rat)<=p.q.x/\p.q.x<=((e+z.b:Int):Rat))/\((-z.b:Int):Rat)<=p.q.y/\p.q.y<=((e+z.b:Int):Rat)):=fun x hx=>by
        have hm:x.l.map PV.q∈rows5.map (fun x=>x.l.map PV.q):=List.mem_map_of_mem (f:=fun x:PRw=>x.l.map PV.q) hx;rw[RQE.out] at hm;obtain⟨part,hp,he⟩:=List.mem_map.1 hm;refine⟨?_,fun p hp'=>?_⟩
        ·have h1:=congrArg List.length he
         rw[List.length_map,List.length_map] at h1;have:=CLN.out.2 part hp;rw[List.length_map] at this;have:=QL.out;omega
        ·have:p.q∈part.map aW.pq:=by rw[he];exact List.mem_map_of_mem hp'
         obtain⟨s,hs,hse⟩:=List.mem_map.1 this;have:=(whole_in LE.out part hp s hs).2;rw[hse] at this;exact⟨⟨this.1,this.2.1⟩,this.2.2.1,this.2.2.2⟩
       have LQ:Hid (iN z e l=eY (rows5.map fun x=>x.l.map fun p=>fN p.q)):=by
        show _=_;rw[LQ.out,<-CLW.out.1,<-RQE.out,List.map_map];congr 1
        refine List.map_congr_left fun x _=>?_
        show (x.l.map PV.q).map fN=_;rw[List.map_map];rfl
       have R5:=Lh ((Rd.own_lt hO2):Rd w6 (·<w6.heap.size) 1 s2 rows5.length (rows5.map PRw.v));have E5:=Lh hr2;obtain⟨sA5,sc5,rfl⟩:=aH hO2;obtain⟨_,sA5',sc5',hv5,k51,k52,-,k54⟩:=R5.out;injection hv5 with e1 e2 e3
       clear e2;subst e1 e3;unfold maxLen at k52;clear hO2 hq2 hr2 hg2 RS1 CLW CLN RQE SOK LE;go_upto_region 19 with fail
       go_wp2_with fail
       go_loopw [17,16] (fun i s wr=>∃ (m:Nat) (rnd:List aI),m<=rows5.length/\i=.int .i64 m/\wr.ownsRow w6.heap.size 58 1 s rnd.length (rnd.map aI.v)/\Hid (dF w6.heap.size wr s rnd)/\Hid (rnd.map aI.l=(rows5.take m).map fun x=>x.l.map fun p=>fN p.q)/\Hid (aB w6 wr)) (fun i _ _=>rows5.length-(intOf i).toNat)
       case atStart=>exact⟨0,[],Nat.zero_le _,rfl,World.ownsRow_nil _ _ _ _,fun r hr=>by simp at hr,rfl,aB.refl _⟩
       case round=>
        obtain⟨m,rnd,hm,rfl,hownR,hinR,hlsR,hgR⟩:=hrel;obtain⟨rp,rc,rfl⟩:=aH hownR
        by_cases hlt5:m<rows5.length
        ·obtain⟨b5,o5,rfl,-,-⟩:=k54 (by omega)
         have c5:wr.cell? ⟨b5,o5+m,none⟩=some (rows5[m]'hlt5).v:=by
          have:=bH hgR.out R5.out rfl (i:=m) (by simpa using hlt5);rw[List.getElem_map] at this;exact this
         have qx:=E5.out (rows5[m]'hlt5) (List.getElem_mem hlt5);have EX:=Lh (EACH.out (rows5[m]'hlt5) (List.getElem_mem hlt5))
         have TS:Hid ((rows5.take (m+1)).map (fun x=>x.l.map fun p=>fN p.q)=(rows5.take m).map (fun x=>x.l.map fun p=>fN p.q)++[(rows5[m]'hlt5).l.map fun p=>fN p.q]):=by
          show _=_;rw[List.take_succ_eq_append_getElem hlt5,List.map_append];rfl
         have HOR:=Lh hownR;clear k54 hownR;generalize rows5[m]'hlt5=x5 at*;obtain⟨v5,l5⟩:=x5;dsimp only at*;have QX:=Lh (qx.1.gr2 (by decide) hgR.out);have QV:Hid (∀ p∈l5,p.rd wr (fun _=>True) 15):=fun p hp=>(qx.2 p hp).gr hgR.out
         have LRN:Hid (rnd.length<=401):=by
          show _<=_;have h1:=congrArg List.length hlsR.out;rw[List.length_map,List.length_map,List.length_take] at h1;have:=LR5.out;omega
         go_wp2_with fail
         clear c5;go_at_call 38;refine mQ l5 15 (-z.b) (e+z.b) _ _ _ wr QX.out QV.out (by decide) (by have:=EX.out.1;omega) LH.out.2.2.1 LH.out.2.2.2 EX.out.2 ?_;intro s7 w7 hO7 hg7;have HOW:=Lh HOR.out;have HOR:=Lh (aJ HOR.out hg7);have INR:=Lh (hinR.out.grow hg7);have GR0:=Lh hgR.out;have GR:=Lh (hgR.out.tr hg7);have hO7':w7.ownsRow wr.heap.size 51 2 s7 (l5.map fun p=>fN p.q).length (Pts (l5.map fun p=>fN p.q)):=aO hO7 (List.length_map ..).symm rfl
         have NEW:Hid (∀ v,s7=v->dF w6.heap.size w7 (.slice rp rnd.length rc) [⟨v,l5.map fun p=>fN p.q⟩]):=by
          rintro v rfl r hr;rw[List.mem_singleton.1 hr]
          refine(Rd.own_from hO7').into fun b hb=>⟨fun e=>?_,by have:=GR0.out.size;omega⟩
          have h2:=(HOW.out.lt b e.symm).2;omega
         obtain⟨A7,c7,rfl⟩:=aH hO7';have NEW:=Lh (NEW.out _ rfl);clear hO7 hO7' hg7 HOW GR0 QX QV hinR hgR qx;generalize l5.map (fun p=>fN p.q)=lr at*;go_upto_region 22 with (at_builtin;refine bJ rfl _ _ rfl fY HOR.out rfl 1 _ rfl (by decide) rfl (by simp[Value.oneCell']) (by have:=LRN.out;omega) GR.out ⟨Nat.le_refl _,GR.out.size⟩ ?_;intro v9 w9 hO9 hg9 hgr9 hb9)
         have HO9:Hid (w9.ownsRow w6.heap.size 58 1 v9 (rnd++[(⟨.slice A7 lr.length c7,lr⟩:aI)]).length ((rnd++[(⟨.slice A7 lr.length c7,lr⟩:aI)]).map aI.v)):=aO hO9 (by simp) (by simp);have IN9:=Lh (INR.out.app NEW.out hgr9 hb9 (Nat.le_succ _));have HG9:=Lh hg9;have L9:Hid ((rnd++[(⟨.slice A7 lr.length c7,lr⟩:aI)]).map aI.l=(rows5.take (m+1)).map fun x=>x.l.map fun p=>fN p.q):=by show _=_;rw[List.map_append,hlsR.out,TS.out];rfl
         clear hO9 hg9 hgr9 hb9 HOR INR NEW TS hlsR;go_wp2;go_roundw
         case rel=>exact⟨m+1,_,by omega,by go_num,HO9.out,IN9.out,L9.out,HG9.out⟩
         case measure=>simp[intOf];omega
        ·obtain rfl:m=rows5.length:=by omega
         rw[List.take_length] at hlsR;have GW:=Lh (GW.out.tr hgR.out);have HO:=Lh (aJ HO.out hgR.out);have IN:=Lh (IN.out.grow hgR.out);have RR:=Lh (Rd.own_lt hownR)
         have RE:Hid (∀ r∈rnd,r.rd wr (fun _=>True)/\r.l.length<=1000):=fun r hr=>⟨(hinR.out r hr).into fun _ _=>trivial,by
          have hm:r.l∈rnd.map aI.l:=List.mem_map_of_mem hr;rw[hlsR.out] at hm;obtain⟨x,hx,he⟩:=List.mem_map.1 hm;rw[<-he,List.length_map]
          exact(EACH.out x hx).1⟩
         have LRN:Hid (rnd.length<=401):=by
          show _<=_;have h1:=congrArg List.length hlsR.out;rw[List.length_map,List.length_map] at h1;have:=LR5.out;omega
         have LQ:Hid (iN z e l=eY (rnd.map aI.l)):=by show _=_;rw[LQ.out,hlsR.out]
         clear hownR hinR hgR hlsR k54 EACH E5 R5;go_upto_region 24 with fail
         go_wp2_with fail
         go_at_call 39;refine vT rnd _ _ _ wr RR.out RE.out (by have:=LRN.out;omega) ?_;intro r6 rows6 w8 hO6 hN6 hL6 hg6;have HOW:=Lh HO.out;have hgw:=Lh GW.out;have HO:=Lh (aJ HO.out hg6);have IN:=Lh (IN.out.grow hg6);have GW:=Lh (GW.out.tr hg6);have R6:=Lh (Rd.own hO6);have L6:Hid (rows6.map aI.l=iN z e l):=hL6.trans LQ.out.symm
         have LO:Hid (rows6.length<=401):=by
          show _<=_;have h1:=congrArg List.length hL6;rw[List.length_map] at h1
          have h2:(eY (rnd.map aI.l)).length<=(rnd.map aI.l).length:=by
           unfold eY;refine Nat.le_trans (List.length_filter_le _ _) ?_;rw[List.length_map];exact Nat.le_refl _
          rw[List.length_map] at h2;have:=LRN.out;omega
         have N6:Hid (dF w3.heap.size w8 (.slice ap rows.length cp) rows6):=fun r hr=>(hN6 r hr).into fun b hb=>⟨fun e=>by
          have h1:=hb.2;have h2:=(HOW.out.lt b e.symm).2
          omega,by have:=hb.2;have:=hgw.out.size;omega⟩
         obtain⟨A6,c6,rfl⟩:=aH hO6;clear hO6 hN6 hL6 hg6 RR RE LRN LQ HOW hgw;go_upto_region 17 with (at_builtin;refine fT rfl _ _ rfl fY HO.out rfl R6.out rfl (fun u hu=>by obtain⟨r,hr,rfl⟩:=List.mem_map.1 hu;obtain⟨_,A',c',hv,-⟩:=N6.out r hr;rw[hv];rfl) (by have:=LO.out;have:=HRN.out;have:=HL.out.1;omega) GW.out.size ?_;intro v9 w9 hO9 hgr9 hb9)
         have HO9:=Lh (aO hO9 (List.length_append).symm (List.map_append).symm);have IN9:=Lh (IN.out.app N6.out hgr9 hb9 (Nat.le_refl _));have HG9:=Lh (bK GW.out hgr9 (cA HO.out));have L9:Hid ((rows++rows6).map aI.l=((A.take (k+1)).map aI.l).flatMap (iN z e)):=by show _=_;rw[LS.out,List.map_append,hls.out,L6.out]
         have B9:Hid ((rows++rows6).length<=401*(k+1)):=by show _<=_;rw[List.length_append];have:=LO.out;have:=HRN.out;omega
         clear hO9 hgr9 hb9 HO IN R6 N6 LS L6 hls HRN LO;go_wp2;go_roundw
         case rel=>exact⟨k+1,rows++rows6,by omega,by go_num,HO9.out,IN9.out,L9.out,B9.out,HG9.out⟩
         case measure=>simp[intOf];omega
      ·obtain rfl:k=A.length:=by omega
       rw[List.take_length] at hls;have GW:=Lh hg.out;have HO8:=Lh hown;have IN8:=Lh hin.out;have L8:Hid (rows.map aI.l=dH ty z e (A.map aI.l)):=hls.out.trans EF.out.symm;clear hown hin hls hg hrn p4
       obtain⟨rows8,hr8⟩:∃ rows8,rows8=rows:=⟨_,rfl⟩
       rw[<-hr8] at HO8 IN8 L8 ⊢;clear hr8
       obtain⟨A8,hA8⟩:∃ A8,A8=ap:=⟨_,rfl⟩
       obtain⟨c8,hc8⟩:∃ c8,c8=cp:=⟨_,rfl⟩
       subst hA8 hc8;go_upto_region 27 with fail
       have BF:=Lh (aC GW.out BF.out);have BR:=Lh (aC GW.out BR.out);have GE:=Lh (GA.out.tr GW.out);have RPT:Hid (Rd wr (fun b=>w.heap.size+1+1<b) 1 (.slice A8 rows8.length c8) rows8.length (rows8.map aI.v)):=(Rd.own_from HO8.out).into fun b hb=>by have:=LT3.out;omega
       have RPR:Hid (∀ r∈rows8,r.rd wr (fun b=>w.heap.size+1+1<b)):=fun r hr=>(IN8.out r hr).into fun b hb=>by have:=hb.2;have:=LT3.out;omega
       have RAV:=Lh ((HAT.out.and_lt (by decide)).gr2 (by decide) GE.out)
       obtain⟨m8,hm8⟩:∃ m8,m8=rows8.length:=⟨_,rfl⟩
       have HM8:=Lh hm8;rw[<-hm8] at RPT ⊢;clear hm8 HO8 IN8
       by_cases h0:m8=0
       ·have PT0:Hid (dH ty z e (A.map aI.l)=[]):=by
         show _=_;rw[<-L8.out,List.eq_nil_of_length_eq_zero (HM8.out.symm.trans h0)];rfl
        have t0:((m8:Int)==0)=true:=by rw[beq_iff_eq];omega
        clear L8 RPT RPR RAV GW;have GA:=GE;clear GE;go_wp2_with (refine wpList_store_row rfl 44 _ _ rfl (w.heap.size+1+1) aV.cells.toArray rfl rfl 44 _ BR.out (by kernel_rfl) rfl (by simp[aV,Ft.cells,Value.oneCell']) ?_)
        refine bodyPost_ret (v:=.tuple #[.agg aV.cells.toArray,.bool false]) ?_ rfl (HBAD.out (fun _ _=>PT0.out) _ (GA.out.row2 (show w.heap.size<=w.heap.size+1+1 by omega) _));exact aQ rfl _ _ (w.heap.size+1+1) _ _ _ _ rfl (setRow_heap _ _ _ _ _ _ BR.out) rfl rfl Tryz.underlying44 (by kernel_rfl)
       ·have PT0:Hid (dH ty z e (A.map aI.l)≠[]):=by
         show _≠_;rw[<-L8.out];intro h;have:=congrArg List.length h;rw[List.length_map] at this;exact h0 (HM8.out.trans this)
        have t0:((m8:Int)==0)=false:=by rw[beq_eq_false_iff_ne];omega
        have y3:=cell_of_row _ w.heap.size 3 _ _ (0,0) BF.out;have g3:=frozen_of_row _ w.heap.size 3 _ _ BF.out;have B3:=Lh (aF BF.out 3 (.slice A8 m8 c8));unfold Ft.cells at y3 B3;simp only[sA,sZ,sS,List.getElem?_toArray,List.getElem?_cons_zero,List.getElem?_cons_succ] at y3 B3;clear FC;go_upto_region 30 with fail
        clear y3 g3;have BR:=Lh (iT BR.out (show w.heap.size+1+1≠w.heap.size by omega) 3 (.slice A8 m8 c8));have GE:=Lh (GE.out.set (p:=⟨w.heap.size,3,none⟩) (Nat.le_refl _) (.slice A8 m8 c8));have RPT:=Lh (RPT.out.set (B:=w.heap.size) (j:=3) (fun b hb=>by omega) (.slice A8 m8 c8));have RPR:Hid (∀ r∈rows8,r.rd (wr.setCell ⟨w.heap.size,3,none⟩ (.slice A8 m8 c8)) (fun b=>w.heap.size+1+1<b)):=fun r hr=>Rd.set (RPR.out r hr) (fun b hb=>by omega) _
        have RAV:=Lh (RAV.out.set (B:=w.heap.size) (j:=3) (fun b hb=>by have:=hb.2;omega) (.slice A8 m8 c8));generalize wr.setCell ⟨w.heap.size,3,none⟩ (.slice A8 m8 c8)=wF at*;go_wp2_with (first|(refine wpList_load_row rfl 44 _ rfl w.heap.size rfl 44 _ _ _ B3.out Tryz.underlying44 rfl (by kernel_rfl) ?_)|(refine wpList_store_row rfl 44 _ _ rfl (w.heap.size+1+1) #[.bool h,.int .u64 id,.int .i64 ty,.slice A8 m8 c8,.slice aA n ac] rfl rfl 44 _ BR.out (by kernel_rfl) rfl (by simp[Value.oneCell']) ?_))
        have kp:∀ b,w.heap.size+1+1≠b->(wF.setRow (w.heap.size+1+1) #[.bool h,.int .u64 id,.int .i64 ty,.slice A8 m8 c8,.slice aA n ac]).heap[b]? =wF.heap[b]? :=fun b hb=>setRow_other _ _ _ _ (by omega)
        refine bodyPost_ret (v:=.tuple #[.agg #[.bool h,.int .u64 id,.int .i64 ty,.slice A8 m8 c8,.slice aA n ac],.bool true]) ?_ rfl (HOK.out HZ.out HPR.out PT0.out (.slice A8 m8 c8) (.slice aA n ac) rows8 _ (GE.out.row2 (show w.heap.size<=w.heap.size+1+1 by omega) _) ?_ ?_ L8.out ?_)
        ·exact aQ rfl _ _ (w.heap.size+1+1) _ _ _ _ rfl (setRow_heap _ _ _ _ _ _ BR.out) rfl rfl Tryz.underlying44 (by kernel_rfl)
        ·have:=(RPT.out.keep fun b hb=>kp b (by omega)).into (T:=fun b=>w.heap.size<=b) fun b hb=>by show w.heap.size<=b;omega
         rw[HM8.out] at this ⊢;exact this
        ·intro r hr
         exact(Rd.keep (RPR.out r hr) fun b hb=>kp b (by omega)).into fun b hb=>by show w.heap.size<=b;omega
        ·exact(RAV.out.keep fun b hb=>kp b (by have:=hb.2;omega)).into fun b hb=>.inr hb.1
    ·have tt1:(ty==1)=false:=by rw[beq_eq_false_iff_ne];omega
     have tt2:(ty==2)=false:=by rw[beq_eq_false_iff_ne];omega
     have tt3:(ty==3)=true:=by rw[beq_iff_eq];omega
     have EF:Hid (dH ty z e (A.map aI.l)=iC z e (A.map aI.l)):=by
      show _=_;unfold dH;rw[if_neg t1,if_neg t2]
     clear t1 t2 p4;have GW:Hid (aB w3 w3):=aB.refl _;obtain⟨f2,f3⟩:=FC.out _ GW.out;go_upto_region 15 with fail
     go_wp2_with fail
     clear f2 f3
     go_loopw [14] (fun i wr=>i=.int .i64 0/\wr=w3) (fun _ _=>0)
     case atStart=>exact⟨rfl,rfl⟩
     case round=>
      obtain⟨rfl,rfl⟩:=hrel;obtain⟨f2,f3⟩:=FC.out _ GW.out;go_wp2_with (refine wpList_load_row rfl 26 _ rfl (w.heap.size+1) rfl 26 _ _ _ BZ.out Tryz.underlying26 rfl (by kernel_rfl) ?_)
      go_at_call 40;refine yI A _ z e _ _ wr (HP.out.gr (by decide) GA.out) (fun r hr=>(HA.out r hr).gr2 (by decide) GA.out) HL.out HZ.out AIN.out ?_;intro r8 rows8 w8 hO8 hN8 hL8 hg8;have GW:=Lh hg8;have HO8:=Lh hO8;have IN8:=Lh hN8;have L8:Hid (rows8.map aI.l=dH ty z e (A.map aI.l)):=hL8.trans EF.out.symm;obtain⟨A8,c8,rfl⟩:=aH hO8;clear hO8 hN8 hL8 hg8 f2 f3 tt1 tt2 tt3;have BF:=Lh (aC GW.out BF.out);have BR:=Lh (aC GW.out BR.out);have GE:=Lh (GA.out.tr GW.out)
      have RPT:Hid (Rd w8 (fun b=>w.heap.size+1+1<b) 1 (.slice A8 rows8.length c8) rows8.length (rows8.map aI.v)):=(Rd.own_from HO8.out).into fun b hb=>by have:=LT3.out;omega
      have RPR:Hid (∀ r∈rows8,r.rd w8 (fun b=>w.heap.size+1+1<b)):=fun r hr=>(IN8.out r hr).into fun b hb=>by have:=hb.2;have:=LT3.out;omega
      have RAV:=Lh ((HAT.out.and_lt (by decide)).gr2 (by decide) GE.out)
      obtain⟨m8,hm8⟩:∃ m8,m8=rows8.length:=⟨_,rfl⟩
      have HM8:=Lh hm8;rw[<-hm8] at RPT ⊢;clear hm8 HO8 IN8
      by_cases h0:m8=0
      ·have PT0:Hid (dH ty z e (A.map aI.l)=[]):=by
        show _=_;rw[<-L8.out,List.eq_nil_of_length_eq_zero (HM8.out.symm.trans h0)];rfl
       have t0:((m8:Int)==0)=true:=by rw[beq_iff_eq];omega
       clear L8 RPT RPR RAV GW;have GA:=GE;clear GE;go_wp2_with (refine wpList_store_row rfl 44 _ _ rfl (w.heap.size+1+1) aV.cells.toArray rfl rfl 44 _ BR.out (by kernel_rfl) rfl (by simp[aV,Ft.cells,Value.oneCell']) ?_)
       refine bodyPost_ret (v:=.tuple #[.agg aV.cells.toArray,.bool false]) ?_ rfl (HBAD.out (fun _ _=>PT0.out) _ (GA.out.row2 (show w.heap.size<=w.heap.size+1+1 by omega) _));exact aQ rfl _ _ (w.heap.size+1+1) _ _ _ _ rfl (setRow_heap _ _ _ _ _ _ BR.out) rfl rfl Tryz.underlying44 (by kernel_rfl)
      ·have PT0:Hid (dH ty z e (A.map aI.l)≠[]):=by
        show _≠_;rw[<-L8.out];intro h;have:=congrArg List.length h;rw[List.length_map] at this;exact h0 (HM8.out.trans this)
       have t0:((m8:Int)==0)=false:=by rw[beq_eq_false_iff_ne];omega
       have y3:=cell_of_row _ w.heap.size 3 _ _ (0,0) BF.out;have g3:=frozen_of_row _ w.heap.size 3 _ _ BF.out;have B3:=Lh (aF BF.out 3 (.slice A8 m8 c8));unfold Ft.cells at y3 B3;simp only[sA,sZ,sS,List.getElem?_toArray,List.getElem?_cons_zero,List.getElem?_cons_succ] at y3 B3;clear FC;go_upto_region 30 with fail
       clear y3 g3;have BR:=Lh (iT BR.out (show w.heap.size+1+1≠w.heap.size by omega) 3 (.slice A8 m8 c8));have GE:=Lh (GE.out.set (p:=⟨w.heap.size,3,none⟩) (Nat.le_refl _) (.slice A8 m8 c8));have RPT:=Lh (RPT.out.set (B:=w.heap.size) (j:=3) (fun b hb=>by omega) (.slice A8 m8 c8));have RPR:Hid (∀ r∈rows8,r.rd (w8.setCell ⟨w.heap.size,3,none⟩ (.slice A8 m8 c8)) (fun b=>w.heap.size+1+1<b)):=fun r hr=>Rd.set (RPR.out r hr) (fun b hb=>by omega) _
       have RAV:=Lh (RAV.out.set (B:=w.heap.size) (j:=3) (fun b hb=>by have:=hb.2;omega) (.slice A8 m8 c8));generalize w8.setCell ⟨w.heap.size,3,none⟩ (.slice A8 m8 c8)=wF at*;go_wp2_with (first|(refine wpList_load_row rfl 44 _ rfl w.heap.size rfl 44 _ _ _ B3.out Tryz.underlying44 rfl (by kernel_rfl) ?_)|(refine wpList_store_row rfl 44 _ _ rfl (w.heap.size+1+1) #[.bool h,.int .u64 id,.int .i64 ty,.slice A8 m8 c8,.slice aA n ac] rfl rfl 44 _ BR.out (by kernel_rfl) rfl (by simp[Value.oneCell']) ?_))
       have kp:∀ b,w.heap.size+1+1≠b->(wF.setRow (w.heap.size+1+1) #[.bool h,.int .u64 id,.int .i64 ty,.slice A8 m8 c8,.slice aA n ac]).heap[b]? =wF.heap[b]? :=fun b hb=>setRow_other _ _ _ _ (by omega)
       refine bodyPost_ret (v:=.tuple #[.agg #[.bool h,.int .u64 id,.int .i64 ty,.slice A8 m8 c8,.slice aA n ac],.bool true]) ?_ rfl (HOK.out HZ.out HPR.out PT0.out (.slice A8 m8 c8) (.slice aA n ac) rows8 _ (GE.out.row2 (show w.heap.size<=w.heap.size+1+1 by omega) _) ?_ ?_ L8.out ?_)
       ·exact aQ rfl _ _ (w.heap.size+1+1) _ _ _ _ rfl (setRow_heap _ _ _ _ _ _ BR.out) rfl rfl Tryz.underlying44 (by kernel_rfl)
       ·have:=(RPT.out.keep fun b hb=>kp b (by omega)).into (T:=fun b=>w.heap.size<=b) fun b hb=>by show w.heap.size<=b;omega
        rw[HM8.out] at this ⊢;exact this
       ·intro r hr
        exact(Rd.keep (RPR.out r hr) fun b hb=>kp b (by omega)).into fun b hb=>by show w.heap.size<=b;omega
       ·exact(RAV.out.keep fun b hb=>kp b (by have:=hb.2;omega)).into fun b hb=>.inr hb.1
  ·have HPR:=Lh hpr
   have tp:(aT ty A != 0)=true:=by rw[bne_iff_ne];exact hpr
   generalize aT ty A=pr at*;clear hpr p4;go_wp2_with (refine wpList_store_row rfl 44 _ _ rfl (w.heap.size+1+1) aV.cells.toArray rfl rfl 44 _ BR.out (by kernel_rfl) rfl (by simp[aV,Ft.cells,Value.oneCell']) ?_)
   refine bodyPost_ret (v:=.tuple #[.agg aV.cells.toArray,.bool false]) ?_ rfl (HBAD.out (fun _ h=>absurd h HPR.out) _ (GA.out.row2 (show w.heap.size<=w.heap.size+1+1 by omega) _));exact aQ rfl _ _ (w.heap.size+1+1) _ _ _ _ rfl (setRow_heap _ _ _ _ _ _ BR.out) rfl rfl Tryz.underlying44 (by kernel_rfl)
end Go.Proofs.YtjalimkajcjapaaGreatDoor
