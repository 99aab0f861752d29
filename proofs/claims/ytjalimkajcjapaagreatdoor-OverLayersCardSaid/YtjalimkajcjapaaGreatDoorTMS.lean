import Derived.Test.YtjalimkajcjapaaGreatDoorLyA
namespace Go.Proofs.YtjalimkajcjapaaGreatDoor
set_option maxRecDepth 100000
open Go.RowKit B
def Rch (L:List LyR):Prop:=∀ x∈L,x.nm.size<=140737488355328/\∀ f∈x.F,∀ a∈f.B,a.key.size<=140737488355328/\a.val.t.size<=140737488355328
def SmF (m:Nat)(f:FtR):Prop:=(f.A.length<=40/\∀ r∈f.A,r.l.length<=300)/\f.B.length<=20/\∀ a∈f.B,a.key.size<=m/\a.val.t.size<=m
def SmL (x:LyR):Prop:=x.nm.size<=1500/\x.F.length<=30/\∀ f∈x.F,SmF 1500 f
def Small (L:List LyR):Prop:=L.length<=10/\∀ x∈L,SmL x
theorem SmF.mono {m n:Nat}{f:FtR}(h:SmF m f)(hm:m<=n):SmF n f:=⟨h.1,h.2.1,fun a ha=>⟨Nat.le_trans (h.2.2 a ha).1 hm,Nat.le_trans (h.2.2 a ha).2 hm⟩⟩
theorem uS {α:Type}{p:α->Prop}{l:List α}{k:Nat}(hk:k<l.length)(h:∀ x∈l.take k,p x)(h1:p l[k]):∀ x∈l.take (k+1),p x:=by
 intro x hx;rw[List.take_succ_eq_append_getElem hk] at hx;rcases List.mem_append.1 hx with hx|hx
 ·exact h x hx
 ·rw[List.mem_singleton.1 hx];exact h1
theorem much2_any (a:Value)(A:List aI)(S S':Nat->Prop)(w:World)(ha:Rd w S 1 a A.length (A.map aI.v))(hA:∀ r∈A,r.rd w S')(hBig:∀ r∈A,r.l.length<=140737488355328){R:Ending->World->Prop}
  (h1:∀ w',aB w w'->R (.returned (.bool true)) w') (h2:(A.length<=40/\∀ r∈A,r.l.length<=300)->∀ w',aB w w'->R (.returned (.bool false)) w'):Calls Tryz.prog 12 #[a] w R:=
 yW a A S S' w ha hA hBig fun b w' hb hg=>by
  cases b with
  |true=>exact h1 w' hg
  |false=>exact h2 (hb rfl) w' hg
set_option maxHeartbeats 8000000 in
theorem muchT_any (lv:Value)(L:List LyR)(S:Nat->Prop)(w:World)(hl:kV w S lv L)(hok:∀ x∈L,x.ok)(hr:Rch L){R:Ending->World->Prop}
  (hT:∀ w',aB w w'->R (.returned (.bool true)) w') (hF:Small L->∀ w',aB w w'->R (.returned (.bool false)) w'):
  Calls Tryz.prog 4 #[lv] w R:=by
 have HT:=Lh hT;have HF:=Lh hF;have OK:=Lh hok;have HRC:=Lh hr;obtain⟨hv,hx⟩:=hl;have HX:=Lh hx;clear hT hF hok hr hx;have hv:=hv.lt (by decide);obtain⟨_,A,c,rfl,h1,h2,h3,h4⟩:=hv;unfold maxLen at h2;go_enter Tryz.func4,Tryz.ntmps4
 go_wp2
 go_loopw [4,3] (fun i s wr=>∃ (k m:Nat),k<=L.length/\i=.int .i64 k/\s=.int .i64 m/\m<=1500/\Hid (∀ x∈L.take k,SmL x)/\Hid (aB w wr)) (fun i _ _=>L.length-(intOf i).toNat)
 case atStart=>exact⟨0,0,Nat.zero_le _,rfl,rfl,by omega,(by show ∀ x∈_,_;simp),aB.refl _⟩
 case round=>
  obtain⟨k,m,hk,rfl,rfl,hm,ha,hg⟩:=hrel
  by_cases hlt:k<L.length
  ·by_cases h12:k<12
   ·obtain⟨b1,o1,rfl,hb1,hc1⟩:=h4 (by omega)
    have e1:=fun W (h:aB w W)=>aL LyR.cells_len h hb1 hc1 hlt
    have RX:=HX.out L[k] (List.getElem_mem hlt);have CX:=HRC.out L[k] (List.getElem_mem hlt);have OX:=OK.out L[k] (List.getElem_mem hlt);have STEP:Hid (SmL L[k]->∀ x∈L.take (k+1),SmL x):=fun h=>uS hlt ha.out h
    clear hc1 h4 h3 ha;generalize L[k]=x at*;obtain⟨xn,xe,xv,xF⟩:=x;obtain⟨r1,r2⟩:=RX;obtain⟨cx1,cx2⟩:=CX;have OF:=Lh OX.ft;dsimp only at r1 r2 cx1 cx2 OF;have RF:=Lh r2;have CF:=Lh cx2;have r1:=r1.lt (by decide);obtain⟨_,Y,cy,rfl,y1,y2,y3,y4⟩:=r1;unfold maxLen at y2
    have E1:Hid (∀ W,aB w W->W.cell? ⟨b1,o1+k*3,none⟩=some (.string xn)/\W.cell? ⟨b1,o1+k*3+2,none⟩=some (.slice Y xF.length cy)):=fun W h=>⟨e1 W h 0 _ rfl,e1 W h 2 _ rfl⟩
    clear e1 OX r2 cx2;have d0:=(E1.out wr hg.out).1;go_upto_region 6 with fail
    clear d0;go_wp2
    go_loopw [5,3] (fun i s wr=>∃ (j n:Nat),j<=xF.length/\j<=40/\i=.int .i64 j/\s=.int .i64 n/\n<=140737488356828+j*5629499534213160/\Hid (xn.size<=n)/\Hid (∀ f∈xF.take j,SmF n f)/\Hid (aB w wr)) (fun i _ _=>xF.length-(intOf i).toNat)
    case atStart=>exact⟨0,m+xn.size,Nat.zero_le _,by omega,rfl,by go_num,by omega,(by show _<=_;omega),(by show ∀ f∈_,_;simp),hg.out⟩
    case round=>
     clear hg;obtain⟨j,n,hj,hj40,rfl,rfl,hn,hxn,hfs,hg⟩:=hrel;have d2:=(E1.out wr hg.out).2
     by_cases hjl:j<xF.length
     ·by_cases hjf:j<40
      ·obtain⟨b2,o2,rfl,hb2,hc2⟩:=y4 (by omega)
       have e2:=aL FtR.cells_len hg.out hb2 hc2 hjl;have RJ:=RF.out xF[j] (List.getElem_mem hjl);have CJ:=CF.out xF[j] (List.getElem_mem hjl);have OJ:=OF.out xF[j] (List.getElem_mem hjl);have ST2:Hid (∀ n',n<=n'->SmF n' xF[j]->∀ f∈xF.take (j+1),SmF n' f):=fun n' hnn h=>uS hjl (fun f hf=>(hfs.out f hf).mono hnn) h
       clear hc2 y4 y3 hfs;generalize xF[j]=y at*;obtain⟨X1,X2,X3,X4,X5,X6,hx1,hx2⟩:=RJ.fm;obtain⟨⟨yh,yi,yt,yp,yv⟩,yA,yB⟩:=y;dsimp only at hx1 hx2;subst hx1 hx2;obtain⟨q1,q2,q3⟩:=RJ;dsimp only at q1 q2 q3 CJ;have CB:=Lh CJ;have PM:=Lh fun W (hg:aB w W) (R:Ending->World->Prop) h1 h2=>much2_any _ yA _ _ W (q1.gr2 (by decide) hg) (fun r hr=>(q2 r hr).gr2 (by decide) hg) OJ.pts (R:=R) h1 h2
       have q3:=q3.lt (by decide);obtain⟨_,Z,cz,hz,z1,z2,z3,z4⟩:=q3;injection hz with hz1 hz2 hz3
       subst hz1 hz2 hz3;unfold maxLen at z2;have u0:=e2 0 _ rfl;have u1:=e2 1 _ rfl;have u2:=e2 2 _ rfl;have u3:=e2 3 _ rfl;have u4:=e2 4 _ rfl;simp only[Nat.add_zero] at u0;clear e2 OJ CJ q1 q2;go_upto_region 10 with fail
       have BF:=Lh ((aN.laid #[.bool yh,.int .u64 yi,.int .i64 yt,.slice X1 X2 X3,.slice X4 yB.length X6] 44 (aB.refl wr)).base hg.out);clear u0 u1 u2 u3 u4 d2 hg;generalize wr.alloc (.cells #[.bool yh,.int .u64 yi,.int .i64 yt,.slice X1 X2 X3,.slice X4 yB.length X6] 44)=wp at*;generalize wr.heap.size=bp at*;have u3:=BF.out.cell 3;go_wp2_with fail
       go_at_call 12;refine PM.out _ BF.out.grow _ ?_ ?_
       ·intro w5 hg5
        have FIN:=Lh (HT.out _ (BF.out.grow.tr hg5));clear hg5 HT HF PM;go_wp2;exact FIN.out
       ·intro htot w5 hg5
        have BG:=Lh (BF.out.tr hg5);clear hg5 PM BF u3;have u4:=BG.out.cell 4
        by_cases h20:20<yB.length
        ·have t1:decide (20<(yB.length:Int))=true:=decide_eq_true (by omega)
         have t2:decide (20<yB.length)=true:=decide_eq_true (by omega);have FIN:=Lh (HT.out _ BG.out.grow);clear HT HF;go_wp2;exact FIN.out
        ·have t1:decide (20<(yB.length:Int))=false:=decide_eq_false (by omega)
         have t2:decide (20<yB.length)=false:=decide_eq_false (by omega);go_wp2;clear t1 t2 u4
         go_loopw [7,3] (fun i s wr=>∃ (p q:Nat),p<=yB.length/\i=.int .i64 p/\s=.int .i64 q/\q<=n+p*281474976710658/\n<=q/\Hid (∀ a∈yB.take p,a.key.size<=q/\a.val.t.size<=q)/\Hid (aN w bp #[.bool yh,.int .u64 yi,.int .i64 yt,.slice X1 X2 X3,.slice X4 yB.length X6] 44 wr)) (fun i _ _=>yB.length-(intOf i).toNat)
         case atStart=>exact⟨0,n,Nat.zero_le _,rfl,rfl,by omega,Nat.le_refl _,(by show ∀ a∈_,_;simp),BG.out⟩
         case round=>
          clear BG;obtain⟨p,q,hp,rfl,rfl,hq1,hq2,hat,hB⟩:=hrel;have u4:=hB.out.cell 4
          by_cases hpl:p<yB.length
          ·obtain⟨b3,o3,rfl,hb3,hc3⟩:=z4 (by omega)
           have e3:=aL Atr.cells_len hB.out.grow hb3 hc3 hpl;obtain⟨ck1,ck2⟩:=CB.out yB[p] (List.getElem_mem hpl);have ST3:Hid (∀ q',q<=q'->yB[p].key.size<=q'->yB[p].val.t.size<=q'->∀ a∈yB.take (p+1),a.key.size<=q'/\a.val.t.size<=q'):=fun q' hqq h1 h2=>uS hpl (fun a ha=>⟨Nat.le_trans (hat.out a ha).1 hqq,Nat.le_trans (hat.out a ha).2 hqq⟩) ⟨h1,h2⟩
           clear hc3 z4 z3 hat;generalize yB[p]=y at*;have v0:=e3 0 _ rfl;have v2:=e3 2 _ rfl;simp only[Nat.add_zero] at v0;clear e3;go_wp2
           go_quiet (fail)
           go_wp2;go_roundw
           case rel=>exact⟨p+1,q+2+y.key.size+y.val.t.size,by omega,by go_num,by go_num,by omega,by omega,(by show ∀ a∈_,_;exact ST3.out _ (by omega) (by omega) (by omega)),hB.out.tr ((aB.refl _).dn _)⟩
           case measure=>simp[intOf];omega
          ·obtain rfl:p=yB.length:=by omega
           rw[List.take_length] at hat;have S4:=Lh (ST2.out q hq2 ⟨htot,by show yB.length<=20;omega,hat.out⟩);have X4:Hid (xn.size<=q):=Nat.le_trans hxn.out hq2;clear hat ST2 htot;go_wp2;go_roundw
           case rel=>exact⟨j+1,q,by omega,by omega,by go_num,rfl,by omega,X4.out,S4.out,hB.out.grow⟩
           case measure=>simp[intOf];omega
      ·have t1:decide ((j:Int)<40)=false:=by simp;omega
       have t2:decide (j<40)=false:=by simp;omega
       have t3:decide (30<(xF.length:Int))=true:=decide_eq_true (by omega);have t4:decide (30<xF.length)=true:=decide_eq_true (by omega);have FIN:=Lh (HT.out _ hg.out);clear HT HF;go_wp2
       all_goals exact FIN.out
     ·obtain rfl:j=xF.length:=by omega
      rw[List.take_length] at hfs
      by_cases h15:1500<n
      ·have t1:decide (1500<(n:Int))=true:=decide_eq_true (by omega)
       have t2:decide (1500<n)=true:=decide_eq_true (by omega);have FIN:=Lh (HT.out _ hg.out);clear HT HF;go_wp2
       all_goals exact FIN.out
      ·have t1:decide (1500<(n:Int))=false:=decide_eq_false (by omega)
       have t2:decide (1500<n)=false:=decide_eq_false (by omega)
       by_cases h30:30<xF.length
       ·have t3:decide (30<(xF.length:Int))=true:=decide_eq_true (by omega)
        have t4:decide (30<xF.length)=true:=decide_eq_true (by omega);have FIN:=Lh (HT.out _ hg.out);clear HT HF;go_wp2
        all_goals exact FIN.out
       ·have t3:decide (30<(xF.length:Int))=false:=decide_eq_false (by omega)
        have t4:decide (30<xF.length)=false:=decide_eq_false (by omega);have S5:=Lh (STEP.out ⟨Nat.le_trans hxn.out (by omega),by show xF.length<=30;omega,fun f hf=>(hfs.out f hf).mono (by omega)⟩);clear STEP hfs hxn;go_wp2;go_roundw
        case rel=>exact⟨k+1,n,by omega,by go_num,rfl,by omega,S5.out,hg.out⟩
        case measure=>simp[intOf];omega
   ·have t40:decide ((k:Int)<12)=false:=by simp;omega
    have t42:decide (k<12)=false:=by simp;omega
    have t41:decide (10<(L.length:Int))=true:=decide_eq_true (by omega);have t43:decide (10<L.length)=true:=decide_eq_true (by omega);go_wp2;exact HT.out _ hg.out
  ·obtain rfl:k=L.length:=by omega
   rw[List.take_length] at ha
   by_cases h10:10<L.length
   ·have t41:decide (10<(L.length:Int))=true:=decide_eq_true (by omega)
    have t43:decide (10<L.length)=true:=decide_eq_true (by omega);go_wp2;exact HT.out _ hg.out
   ·have t41:decide (10<(L.length:Int))=false:=decide_eq_false (by omega)
    have t43:decide (10<L.length)=false:=decide_eq_false (by omega);have HF2:=Lh (HF.out ⟨by omega,ha.out⟩);go_wp2;exact HF2.out _ hg.out
end Go.Proofs.YtjalimkajcjapaaGreatDoor
namespace Go.Proofs.YtjalimkajcjapaaGreatDoor
set_option maxRecDepth 100000
open Go.RowKit B
set_option maxHeartbeats 8000000 in
theorem pV (a b:Value)(A B:List LyR)(S T:Nat->Prop)(w:World)(ha:kV w S a A)(hb:kV w T b B){R:Ending->World->Prop}(hR:∀ (c:Bool) w',(c=true↔A.map LyR.pl=B.map LyR.pl)->aB w w'->R (.returned (.bool c)) w'):
  Calls Tryz.prog 10 #[a,b] w R:=by
 obtain⟨ha,hA⟩:=ha;obtain⟨hb,hB⟩:=hb;have ha:=ha.lt (by decide);have hb:=hb.lt (by decide);have HA:=Lh hA;have HB:=Lh hB;obtain⟨_,X,c,rfl,h1,h2,h3,h4⟩:=ha;obtain⟨_,Y,d,rfl,k1,k2,k3,k4⟩:=hb;unfold maxLen at h2 k2;have HR:=Lh hR;clear hR hA hB
 by_cases hl:A.length=B.length
 ·have heq:((A.length:Int) != B.length)=false:=by simp;omega
  have hl:=Lh hl;go_enter Tryz.func10,Tryz.ntmps10
  go_wp2
  go_loopw [5] (fun i wr=>∃ k:Nat,k<=A.length/\i=.int .i64 k/\Hid ((A.take k).map LyR.pl=(B.take k).map LyR.pl)/\Hid (aB w wr)) (fun i _=>A.length-(intOf i).toNat)
  case atStart=>exact⟨0,Nat.zero_le _,rfl,rfl,aB.refl _⟩
  case round=>
   obtain⟨k,hk,rfl,ht,hg⟩:=hrel
   by_cases hlt:k<A.length
   ·have hlt2:k<B.length:=by rw[<-hl.out];exact hlt
    obtain⟨b1,o1,rfl,hb1,hc1⟩:=h4 (by omega);obtain⟨b2,o2,rfl,hb2,hc2⟩:=k4 (by omega);have e1:=fun W (h:aB w W)=>aL LyR.cells_len h hb1 hc1 hlt
    have e2:=fun W (h:aB w W)=>aL LyR.cells_len h hb2 hc2 hlt2
    have YS:Hid (A[k].pl=B[k].pl->(A.take (k+1)).map LyR.pl=(B.take (k+1)).map LyR.pl):=fun h=>take_plL hlt hlt2 ht.out h
    have NO:Hid (¬ A[k].pl=B[k].pl->¬ A.map LyR.pl=B.map LyR.pl):=fun h h2=>h (plL_at hlt hlt2 h2)
    have RA:=HA.out A[k] (List.getElem_mem hlt);have RB:=HB.out B[k] (List.getElem_mem hlt2);clear hc1 hc2 h4 k4 h3 k3;generalize A[k]=x at*;generalize B[k]=y at*;have PL:=Lh (LyR.pl_iff (x:=x) (y:=y));obtain⟨xn,xe,xv,xF⟩:=x;obtain⟨yn,ye,yv,yF⟩:=y
    have E1:Hid (∀ W,aB w W->(W.cell? ⟨b1,o1+k*3,none⟩=some (.string xn)/\W.cell? ⟨b1,o1+k*3+1,none⟩=some (.int .i64 xe)/\W.cell? ⟨b1,o1+k*3+2,none⟩=some xv)/\W.cell? ⟨b2,o2+k*3,none⟩=some (.string yn)/\W.cell? ⟨b2,o2+k*3+1,none⟩=some (.int .i64 ye)/\W.cell? ⟨b2,o2+k*3+2,none⟩=some yv):=fun W h=>⟨⟨e1 W h 0 _ rfl,e1 W h 1 _ rfl,e1 W h 2 _ rfl⟩,e2 W h 0 _ rfl,e2 W h 1 _ rfl,e2 W h 2 _ rfl⟩
    obtain⟨ra1,ra2⟩:=RA;obtain⟨rb1,rb2⟩:=RB;dsimp only at ra1 ra2 rb1 rb2;have SA:=Lh fun W (hg:aB w W) (R:Ending->World->Prop) hR=>nN xv yv xF yF _ _ _ _ W (ra1.gr2 (by decide) hg) (fun f hf=>(ra2 f hf).gr hg) (rb1.gr2 (by decide) hg) (fun f hf=>(rb2 f hf).gr hg) (R:=R) hR
    clear e1 e2 ra1 ra2 rb1 rb2;dsimp only at PL;have NO:Hid (¬ (xn=yn/\xe=ye/\xF.map FtR.pl=yF.map FtR.pl)->∀ w',aB w w'->R (.returned (.bool false)) w'):=fun h w' hg=>HR.out false w' ⟨fun h2=>(by cases h2),fun h2=>absurd h2 (NO.out fun h3=>h (PL.out.1 h3))⟩ hg
    have YS:Hid (xn=yn/\xe=ye/\xF.map FtR.pl=yF.map FtR.pl->(A.take (k+1)).map LyR.pl=(B.take (k+1)).map LyR.pl):=fun h=>YS.out (PL.out.2 h)
    clear PL;go_upto_region 6 with fail
    refine aE (aB wr.drew) ((aB.refl _)) 35 [0,1,2,3,4,5,6,7,8,9,10,11,12,13,14,15,16,17,18,19,20,21,22,23,24,25,26,27,28,29,30,31,32,33,34] (by kernel_rfl) (by kernel_rfl) (by intro c a d v w h;cases d<;>exact h) ?_;have GD:=Lh (hg.out.tr (aB.refl wr).dr);generalize wr.drew=wd at*
    by_cases hkey:xn.toList=yn.toList
    ·have e0:xn=yn:=nZ hkey
     subst e0;clear hkey
     cases tt:(xe != ye) with
     |true=>
      have tn:¬ xe=ye:=by rintro rfl;simp at tt
      iterate 25 (apply aD;exact rfl;exact rfl;(intro W hW;obtain⟨⟨q0,q1,q2⟩,q3,q4,q5⟩:=E1.out W (GD.out.tr hW);(try clear hW);go_simp;with_reducible rfl);try simp only[Act.put,sA,sZ,sS])
      iterate 10 (apply bF;exact rfl;exact rfl;try simp only[Act.put,sA,sZ,sS])
      refine aK ?_;simp only[List.drop_succ_cons,List.drop_zero];clear E1 SA YS;go_wp2;exact NO.out (fun h=>tn h.2.1) _ GD.out
     |false=>
      have et:xe=ye:=by simpa using tt
      subst et;clear tt
      iterate 35 (apply aD;exact rfl;exact rfl;(intro W hW;obtain⟨⟨q0,q1,q2⟩,q3,q4,q5⟩:=E1.out W (GD.out.tr hW);(try clear hW);go_simp;with_reducible rfl);try simp only[Act.put,sA,sZ,sS])
      refine aK ?_;simp only[List.drop_succ_cons,List.drop_zero];go_wp2_with fail
      go_at_call 24;refine SA.out _ GD.out _ ?_;intro cc w1 hc hg1;have G1:=Lh (GD.out.tr hg1);clear hg1 SA E1
      cases cc with
      |true=>
       have Y2:=Lh (YS.out ⟨by first|rfl|trivial,by first|rfl|trivial,hc.1 rfl⟩);clear hc NO YS;go_wp2;go_roundw
       case rel=>exact⟨k+1,by omega,by go_num,Y2.out,G1.out⟩
       case measure=>simp[intOf];omega
      |false=>
       have FIN:=Lh (NO.out fun h=>by have:=hc.2 h.2.2;cases this);clear hc NO YS;go_wp2;exact FIN.out _ G1.out
    ·have hk2:(xn.toList==yn.toList)=false:=by rw[beq_eq_false_iff_ne];exact hkey
     have FIN:=Lh (NO.out fun h=>hkey (by rw[h.1]))
     iterate 12 (apply aD;exact rfl;exact rfl;(intro W hW;obtain⟨⟨q0,q1,q2⟩,q3,q4,q5⟩:=E1.out W (GD.out.tr hW);(try clear hW);go_simp;with_reducible rfl);try simp only[Act.put,sA,sZ,sS])
     iterate 11 (apply bF;exact rfl;exact rfl;try simp only[Act.put,sA,sZ,sS])
     iterate 2 (apply aD;exact rfl;exact rfl;(intro W hW;obtain⟨⟨q0,q1,q2⟩,q3,q4,q5⟩:=E1.out W (GD.out.tr hW);(try clear hW);go_simp;with_reducible rfl);try simp only[Act.put,sA,sZ,sS])
     iterate 10 (apply bF;exact rfl;exact rfl;try simp only[Act.put,sA,sZ,sS])
     refine aK ?_;simp only[List.drop_succ_cons,List.drop_zero];clear E1 SA YS NO;go_wp2;exact FIN.out _ GD.out
   ·obtain rfl:k=A.length:=by omega
    have e:A.map LyR.pl=B.map LyR.pl:=by
     have:=ht.out;rw[List.take_length] at this;rw[this,List.take_of_length_le (by rw[hl.out];exact Nat.le_refl _)]
    have h:=Lh (HR.out true);clear HA HB;go_wp2;exact h.out _ ⟨fun _=>e,fun _=>by first|rfl|trivial⟩ hg.out
 ·have heq:((A.length:Int) != B.length)=true:=by simp;omega
  have e:¬ A.map LyR.pl=B.map LyR.pl:=fun h=>hl (by have:=congrArg List.length h;rwa[List.length_map,List.length_map] at this)
  clear HA HB;go_enter Tryz.func10,Tryz.ntmps10
  go_wp2;exact HR.out false _ ⟨fun h=>(by cases h),fun h=>absurd h e⟩ (aB.refl _)
end Go.Proofs.YtjalimkajcjapaaGreatDoor
