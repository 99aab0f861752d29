import Derived.Test.YtjalimkajcjapaaGreatDoorVlA
import Derived.Test.YtjalimkajcjapaaGreatDoorLyA
import Derived.Carry
namespace Go.Proofs.YtjalimkajcjapaaGreatDoor
set_option maxRecDepth 100000
open Go.RowKit B
def okB (B:List Atr):Prop:=(B.map Atr.key).Nodup/\∀ a∈B,Lib.validD a.key.data.toList=true/\cU a.val=true
theorem oJ (x:Val):cU (dP x)=cU x:=by
 unfold cU dP
 by_cases h:x.k=1<;>simp[h]
theorem okB_iff (B:List Atr):tS (B.map Atr.pl)=true↔okB B:=by
 unfold tS okB;have e:(B.map Atr.pl).map Prod.fst=B.map Atr.key:=by rw[List.map_map];rfl
 simp only[Bool.and_eq_true,decide_eq_true_eq,e,List.all_eq_true,List.mem_map]
 constructor
 ·rintro⟨h1,h2⟩
  exact⟨h1,fun a ha=>by
   have:=h2 _ ⟨a,ha,rfl⟩;rw[<-oJ]
   exact this⟩
 ·rintro⟨h1,h2⟩
  refine⟨h1,?_⟩;rintro _ ⟨a,ha,rfl⟩;have:=h2 a ha;rw[<-oJ] at this;exact this
theorem mR {B:List Atr}(h:okB B)(k:Nat):okB (B.take k):=by
 obtain⟨h1,h2⟩:=h;refine⟨?_,fun a ha=>h2 a (List.mem_of_mem_take ha)⟩;rw[List.map_take];exact h1.sublist (List.take_sublist _ _)
theorem mS {B:List Atr}{k:Nat}(hk:k<B.length):okB (B.take (k+1))↔okB (B.take k)/\B[k].key∉(B.take k).map Atr.key/\Lib.validD B[k].key.data.toList=true/\cU B[k].val=true:=by
 rw[List.take_succ_eq_append_getElem hk];unfold okB;rw[List.map_append,List.nodup_append]
 constructor
 ·rintro⟨⟨h1,-,h2⟩,h3⟩
  exact⟨⟨h1,fun a ha=>h3 a (List.mem_append.2 (.inl ha))⟩,fun hm=>h2 _ hm _ (by simp) rfl,h3 B[k] (List.mem_append.2 (.inr (List.mem_singleton.2 rfl)))⟩
 ·rintro⟨⟨h1,h2⟩,h3,h4⟩
  refine⟨⟨h1,by simp,?_⟩,?_⟩
  ·intro a ha b hb e
   simp only[List.map_cons,List.map_nil,List.mem_singleton] at hb;exact h3 (hb▸e▸ha)
  ·intro a ha
   rcases List.mem_append.1 ha with ha|ha
   ·exact h2 a ha
   ·rw[List.mem_singleton.1 ha];exact h4
theorem lT (f:FtR):eJ f.pl=true↔aT f.f.ty f.A=0/\(f.f.h=true∨f.f.id=0)/\okB f.B:=by
 unfold eJ;rw[yL];simp only[Bool.and_eq_true,Bool.or_eq_true,FtR.pl];rw[okB_iff];exact⟨fun ⟨⟨a,b⟩,c⟩=>⟨of_decide_eq_true a,b.imp id of_decide_eq_true,c⟩,fun ⟨a,b,c⟩=>⟨⟨decide_eq_true a,b.imp id fun h=>decide_eq_true h⟩,c⟩⟩
theorem rR (w:World):(zeroValue 4).run Tryz.prog w=.ok (.bool false) w:=by kernel_rfl
set_option maxHeartbeats 4000000 in
theorem vU (f:FtR)(S:Nat->Prop)(w:World)(hf:f.rd w S)(hok:f.ok)(hT:kD w)(hn:f.B.length<=1000000){R:Ending->World->Prop}(hR:∀ (c:Bool) w',(c=true↔eJ f.pl=true)->aB w w'->R (.returned (.bool c)) w'):
  Calls Tryz.prog 26 #[.agg f.cells.toArray] w R:=by
 have HR:=Lh hR;have RF:=Lh (lT f);have OA:=Lh hok.atr;have HT:=Lh hT;clear hR hok hT;obtain⟨⟨xh,xi,xt,xp,xv⟩,xA,xB⟩:=f;obtain⟨r1,r2,r3⟩:=hf;dsimp only at r1 r2 r3 RF OA hn;obtain⟨X1,X2,X3,hx1⟩:=r1.form;subst hx1;have r3:=r3.lt (by decide);have PR:=Lh fun W (hg:aB w W) (R:Ending->World->Prop) hR=>eW xt _ xA _ _ W (r1.gr2 (by decide) hg) (fun r hr=>(r2 r hr).gr2 (by decide) hg) (R:=R) hR
 clear r1 r2;obtain⟨_,Y,cy,rfl,y1,y2,y3,y4⟩:=r3;unfold maxLen at y2;unfold FtR.cells Ft.cells;dsimp only;generalize hp:aT xt xA=p at*;clear hp;have NO:Hid (¬ (p=0/\(xh=true∨xi=0)/\okB xB)->∀ w',aB w w'->R (.returned (.bool false)) w'):=fun h w' hg=>HR.out false w' ⟨fun h2=>(by cases h2),fun h2=>absurd (RF.out.1 h2) h⟩ hg
 have YS:Hid ((p=0/\(xh=true∨xi=0)/\okB xB)->∀ w',aB w w'->R (.returned (.bool true)) w'):=fun h w' hg=>HR.out true w' ⟨fun _=>RF.out.2 h,fun _=>rfl⟩ hg
 clear HR RF;have hmm:=@run_makeMap Tryz.prog;have BX:=Lh (aN.laid #[.bool xh,.int .u64 xi,.int .i64 xt,.slice X1 X2 X3,.slice Y xB.length cy] 44 (aB.refl w));go_enter Tryz.func26,Tryz.ntmps26
 go_wp2_with fail
 go_at_call 22;refine PR.out _ BX.out.grow _ ?_;intro w1 hg1;have BX:=Lh (BX.out.tr hg1);clear hg1 PR;have x0:=BX.out.cell 0;have x1:=BX.out.cell 1;have x4:=BX.out.cell 4
 by_cases p0:p=0
 ·have tp:(p != 0)=false:=by simp[p0]
  cases xh with
  |true=>
   clear tp;subst p0;have p0:(0:Int)=0:=rfl;have YS1:Hid (okB xB->∀ w',aB w w'->R (.returned (.bool true)) w'):=fun h=>YS.out ⟨p0,.inl rfl,h⟩
   have NO1:Hid (¬ okB xB->∀ w',aB w w'->R (.returned (.bool false)) w'):=fun h=>NO.out fun h2=>h h2.2.2
   clear YS NO
   have M1:Hid (eP Tryz.prog 9 (w1.alloc (.map #[] 0)) w1.heap.size 0 (iK Value.string [])):=by
    rw[pT];exact eP.made w1 Tryz.prog 9
   have G1:=Lh (BX.out.grow.al (.map #[] 0));have LB:=Lh BX.out.grow.size;have z4:=(BX.out.tr ((aB.refl w1).al (.map #[] 0))).cell 4;go_wp2;generalize w1.alloc (.map #[] 0)=wm at*;generalize w1.heap.size=mb at*;clear BX x0 x1 x4 z4 p0
   go_loopw [26] (fun i wr=>∃ k:Nat,k<=xB.length/\i=.int .i64 k/\Hid (okB (xB.take k))/\Hid (eP Tryz.prog 9 wr mb k (iK Value.string ((xB.take k).map Atr.key)))/\Hid (aB w wr)) (fun i _=>xB.length-(intOf i).toNat)
   case atStart=>exact⟨0,Nat.zero_le _,rfl,⟨by simp,by simp⟩,M1.out,G1.out⟩
   case round=>
    clear M1 G1;obtain⟨k,hk,rfl,ho,hm,hg⟩:=hrel
    by_cases hlt:k<xB.length
    ·obtain⟨b1,o1,rfl,hb1,hc1⟩:=y4 (by omega)
     have e1:=aL Atr.cells_len hg.out hb1 hc1 hlt;have SU:=Lh (mS hlt);have TK:Hid ((xB.take (k+1)).map Atr.key=(xB.take k).map Atr.key++[xB[k].key]):=by show _=_;rw[List.take_succ_eq_append_getElem hlt,List.map_append];rfl
     have OX:=Lh (OA.out xB[k] (List.getElem_mem hlt));have BAD:Hid (¬ okB (xB.take (k+1))->∀ w',aB w w'->R (.returned (.bool false)) w'):=fun h=>NO1.out fun h2=>h (mR h2 _)
     clear hc1 y4 y3 NO1 YS1;generalize xB[k]=y at*;generalize (xB.take k).map Atr.key=L at*;obtain⟨yk,yv,yt,yb⟩:=y;have d0:=e1 0 _ rfl;have d1:=e1 1 _ rfl;have d2:=e1 2 _ rfl;have d3:=e1 3 _ rfl;simp only[Nat.add_zero] at d0;clear e1;dsimp only at SU TK;obtain⟨ok1,ok2,ok3,ok4⟩:=OX.out;dsimp only at ok1 ok2 ok3 ok4;unfold maxLen at ok1 ok4;have VA:=Lh fun W (hg:aB w W) (R:Ending->World->Prop) hR=>fF yk (by omega) W (HT.out.gr hg) (R:=R) hR
     have RA:=Lh fun W (hg:aB w W) (R:Ending->World->Prop) hR=>pK ⟨yv,yt,yb⟩ (by dsimp only;omega) W (HT.out.gr hg) (R:=R) hR
     unfold Val.v at RA;dsimp only at RA;have XK:=Lh (yD (s:=yk) (by unfold maxLen;omega));have AT:=Lh (tN tI L yk);have PU:=Lh (pS (c:=Value.string) L yk);clear OX ok1 ok2 ok3 ok4;go_upto_region 7 with fail
     have BA:=Lh (aN.laid #[.string yk,.int .i64 yv,.string yt,.int .u64 yb] 49 (aB.refl wr));have G2:=Lh (hg.out.al (.cells #[.string yk,.int .i64 yv,.string yt,.int .u64 yb] 49));have M2:=Lh (hm.out.gr ((aB.refl wr).al (.cells #[.string yk,.int .i64 yv,.string yt,.int .u64 yb] 49)));clear d0 d1 d2 d3 hg hm;generalize wr.alloc (.cells #[.string yk,.int .i64 yv,.string yt,.int .u64 yb] 49)=wa at*;have q0:=BA.out.cell 0
     by_cases hin:yk∈L
     ·have AT:Hid (iK Value.string L (.string yk)=some (.bool true)):=AT.out.trans (if_pos hin)
      have FIN:=Lh (BAD.out fun h=>(SU.out.1 h).2.1 hin);clear BAD SU VA RA;go_wp2_with (at_lookup;refine eQ _ rfl _ _ _ rfl M2.out rfl uB Tryz.underlying62 (rR _) (key:=.string yk) rfl XK.out (v:=.bool true) (by rw[AT.out];rfl) ?_)
      exact FIN.out _ G2.out
     ·have AT:Hid (iK Value.string L (.string yk)=none):=AT.out.trans (if_neg hin)
      go_wp2_with (at_lookup;refine eQ _ rfl _ _ _ rfl M2.out rfl uB Tryz.underlying62 (rR _) (key:=.string yk) rfl XK.out (v:=.bool false) (by rw[AT.out];rfl) ?_)
      go_at_call 25;refine VA.out _ G2.out _ ?_;intro w3 hg3;have BA:=Lh (BA.out.tr hg3);have G3:=Lh (G2.out.tr hg3);have M3:=Lh (M2.out.gr hg3);clear hg3 VA q0 G2 M2
      cases hv:Lib.validD yk.data.toList with
      |false=>
       have FIN:=Lh (BAD.out fun h=>by have:=(SU.out.1 h).2.2.1;rw[hv] at this;cases this);clear BAD SU RA hv;go_wp2;exact FIN.out _ G3.out
      |true=>
       have q1:=BA.out.cell 1;have q2:=BA.out.cell 2;have q3:=BA.out.cell 3;go_wp2_with fail
       go_at_call 48;refine RA.out _ G3.out _ ?_;intro w4 hg4;have BA:=Lh (BA.out.tr hg4);have G4:=Lh (G3.out.tr hg4);have M4:=Lh (M3.out.gr hg4);clear hg4 RA q1 q2 q3 G3 M3
       cases hr:cU ⟨yv,yt,yb⟩ with
       |false=>
        have FIN:=Lh (BAD.out fun h=>by have:=(SU.out.1 h).2.2.2;rw[hr] at this;cases this);clear BAD SU hr;go_wp2;exact FIN.out _ G4.out
       |true=>
        have OK:=Lh (SU.out.2 ⟨ho.out,hin,hv,hr⟩);have q0:=BA.out.cell 0;clear BAD SU hr hv hin;go_wp2_with (at_mapUpdate;refine lQ _ rfl _ _ _ _ rfl M4.out rfl uB Tryz.underlying62 (by unfold maxLen;omega) (key:=.string yk) (val:=.bool true) rfl rfl XK.out PU.out.1 PU.out.2 ?_;intro w5 hm5 hg5;have M5:=Lh hm5;have G5:=Lh (bK G4.out hg5 fun j e=>by injection e with e;have:=LB.out;omega);clear hm5 hg5 q0)
        go_roundw
        case rel=>exact⟨k+1,by omega,by go_num,OK.out,(by show eP _ _ _ _ _ _;rw[TK.out];exact M5.out),G5.out⟩
        case measure=>simp[intOf];omega
    ·obtain rfl:k=xB.length:=by omega
     rw[List.take_length] at ho;have FIN:=Lh (YS1.out ho.out);clear NO1 YS1;go_wp2;exact FIN.out _ hg.out
  |false=>
   by_cases hi:xi=0
   ·have ti:((xi:Int) != 0)=false:=by simp[hi]
    subst p0;have p0:(0:Int)=0:=rfl;subst hi;clear tp ti;have YS1:Hid (okB xB->∀ w',aB w w'->R (.returned (.bool true)) w'):=fun h=>YS.out ⟨p0,.inr rfl,h⟩
    have NO1:Hid (¬ okB xB->∀ w',aB w w'->R (.returned (.bool false)) w'):=fun h=>NO.out fun h2=>h h2.2.2
    clear YS NO
    have M1:Hid (eP Tryz.prog 9 (w1.alloc (.map #[] 0)) w1.heap.size 0 (iK Value.string [])):=by
     rw[pT];exact eP.made w1 Tryz.prog 9
    have G1:=Lh (BX.out.grow.al (.map #[] 0));have LB:=Lh BX.out.grow.size;have z4:=(BX.out.tr ((aB.refl w1).al (.map #[] 0))).cell 4;go_wp2;generalize w1.alloc (.map #[] 0)=wm at*;generalize w1.heap.size=mb at*;clear BX x0 x1 x4 z4 p0
    go_loopw [26] (fun i wr=>∃ k:Nat,k<=xB.length/\i=.int .i64 k/\Hid (okB (xB.take k))/\Hid (eP Tryz.prog 9 wr mb k (iK Value.string ((xB.take k).map Atr.key)))/\Hid (aB w wr)) (fun i _=>xB.length-(intOf i).toNat)
    case atStart=>exact⟨0,Nat.zero_le _,rfl,⟨by simp,by simp⟩,M1.out,G1.out⟩
    case round=>
     clear M1 G1;obtain⟨k,hk,rfl,ho,hm,hg⟩:=hrel
     by_cases hlt:k<xB.length
     ·obtain⟨b1,o1,rfl,hb1,hc1⟩:=y4 (by omega)
      have e1:=aL Atr.cells_len hg.out hb1 hc1 hlt;have SU:=Lh (mS hlt);have TK:Hid ((xB.take (k+1)).map Atr.key=(xB.take k).map Atr.key++[xB[k].key]):=by show _=_;rw[List.take_succ_eq_append_getElem hlt,List.map_append];rfl
      have OX:=Lh (OA.out xB[k] (List.getElem_mem hlt));have BAD:Hid (¬ okB (xB.take (k+1))->∀ w',aB w w'->R (.returned (.bool false)) w'):=fun h=>NO1.out fun h2=>h (mR h2 _)
      clear hc1 y4 y3 NO1 YS1;generalize xB[k]=y at*;generalize (xB.take k).map Atr.key=L at*;obtain⟨yk,yv,yt,yb⟩:=y;have d0:=e1 0 _ rfl;have d1:=e1 1 _ rfl;have d2:=e1 2 _ rfl;have d3:=e1 3 _ rfl;simp only[Nat.add_zero] at d0;clear e1;dsimp only at SU TK;obtain⟨ok1,ok2,ok3,ok4⟩:=OX.out;dsimp only at ok1 ok2 ok3 ok4;unfold maxLen at ok1 ok4;have VA:=Lh fun W (hg:aB w W) (R:Ending->World->Prop) hR=>fF yk (by omega) W (HT.out.gr hg) (R:=R) hR
      have RA:=Lh fun W (hg:aB w W) (R:Ending->World->Prop) hR=>pK ⟨yv,yt,yb⟩ (by dsimp only;omega) W (HT.out.gr hg) (R:=R) hR
      unfold Val.v at RA;dsimp only at RA;have XK:=Lh (yD (s:=yk) (by unfold maxLen;omega));have AT:=Lh (tN tI L yk);have PU:=Lh (pS (c:=Value.string) L yk);clear OX ok1 ok2 ok3 ok4;go_upto_region 7 with fail
      have BA:=Lh (aN.laid #[.string yk,.int .i64 yv,.string yt,.int .u64 yb] 49 (aB.refl wr));have G2:=Lh (hg.out.al (.cells #[.string yk,.int .i64 yv,.string yt,.int .u64 yb] 49));have M2:=Lh (hm.out.gr ((aB.refl wr).al (.cells #[.string yk,.int .i64 yv,.string yt,.int .u64 yb] 49)));clear d0 d1 d2 d3 hg hm;generalize wr.alloc (.cells #[.string yk,.int .i64 yv,.string yt,.int .u64 yb] 49)=wa at*;have q0:=BA.out.cell 0
      by_cases hin:yk∈L
      ·have AT:Hid (iK Value.string L (.string yk)=some (.bool true)):=AT.out.trans (if_pos hin)
       have FIN:=Lh (BAD.out fun h=>(SU.out.1 h).2.1 hin);clear BAD SU VA RA;go_wp2_with (at_lookup;refine eQ _ rfl _ _ _ rfl M2.out rfl uB Tryz.underlying62 (rR _) (key:=.string yk) rfl XK.out (v:=.bool true) (by rw[AT.out];rfl) ?_)
       exact FIN.out _ G2.out
      ·have AT:Hid (iK Value.string L (.string yk)=none):=AT.out.trans (if_neg hin)
       go_wp2_with (at_lookup;refine eQ _ rfl _ _ _ rfl M2.out rfl uB Tryz.underlying62 (rR _) (key:=.string yk) rfl XK.out (v:=.bool false) (by rw[AT.out];rfl) ?_)
       go_at_call 25;refine VA.out _ G2.out _ ?_;intro w3 hg3;have BA:=Lh (BA.out.tr hg3);have G3:=Lh (G2.out.tr hg3);have M3:=Lh (M2.out.gr hg3);clear hg3 VA q0 G2 M2
       cases hv:Lib.validD yk.data.toList with
       |false=>
        have FIN:=Lh (BAD.out fun h=>by have:=(SU.out.1 h).2.2.1;rw[hv] at this;cases this);clear BAD SU RA hv;go_wp2;exact FIN.out _ G3.out
       |true=>
        have q1:=BA.out.cell 1;have q2:=BA.out.cell 2;have q3:=BA.out.cell 3;go_wp2_with fail
        go_at_call 48;refine RA.out _ G3.out _ ?_;intro w4 hg4;have BA:=Lh (BA.out.tr hg4);have G4:=Lh (G3.out.tr hg4);have M4:=Lh (M3.out.gr hg4);clear hg4 RA q1 q2 q3 G3 M3
        cases hr:cU ⟨yv,yt,yb⟩ with
        |false=>
         have FIN:=Lh (BAD.out fun h=>by have:=(SU.out.1 h).2.2.2;rw[hr] at this;cases this);clear BAD SU hr;go_wp2;exact FIN.out _ G4.out
        |true=>
         have OK:=Lh (SU.out.2 ⟨ho.out,hin,hv,hr⟩);have q0:=BA.out.cell 0;clear BAD SU hr hv hin;go_wp2_with (at_mapUpdate;refine lQ _ rfl _ _ _ _ rfl M4.out rfl uB Tryz.underlying62 (by unfold maxLen;omega) (key:=.string yk) (val:=.bool true) rfl rfl XK.out PU.out.1 PU.out.2 ?_;intro w5 hm5 hg5;have M5:=Lh hm5;have G5:=Lh (bK G4.out hg5 fun j e=>by injection e with e;have:=LB.out;omega);clear hm5 hg5 q0)
         go_roundw
         case rel=>exact⟨k+1,by omega,by go_num,OK.out,(by show eP _ _ _ _ _ _;rw[TK.out];exact M5.out),G5.out⟩
         case measure=>simp[intOf];omega
     ·obtain rfl:k=xB.length:=by omega
      rw[List.take_length] at ho;have FIN:=Lh (YS1.out ho.out);clear NO1 YS1;go_wp2;exact FIN.out _ hg.out
   ·have ti:((xi:Int) != 0)=true:=by simp[hi]
    have FIN:=Lh (NO.out fun h=>by rcases h.2.1 with h|h;cases h;exact hi h);subst p0;clear tp NO YS;go_wp2;exact FIN.out _ BX.out.grow
 ·have tp:(p != 0)=true:=by simp[p0]
  have FIN:=Lh (NO.out fun h=>p0 h.1);clear NO YS p0;go_wp2;exact FIN.out _ BX.out.grow
def okX (x:LyR):Prop:=Lib.validD x.nm.data.toList=true/\(1<=x.ext/\x.ext<=65536)/\∀ f∈x.F,eJ f.pl=true
def okL (L:List LyR):Prop:=(L.map LyR.nm).Nodup/\∀ x∈L,okX x
theorem okL_iff (L:List LyR):bC (L.map LyR.pl)=true↔okL L:=by
 unfold bC okL okX;have e:(L.map LyR.pl).map Prod.fst=L.map LyR.nm:=by rw[List.map_map];rfl
 rw[Bool.and_eq_true,List.all_eq_true,e]
 constructor
 ·rintro⟨h1,h2⟩
  refine⟨of_decide_eq_true h1,fun x hx=>?_⟩;have h3:=h2 _ (List.mem_map.2 ⟨x,hx,rfl⟩);rw[Bool.and_eq_true,Bool.and_eq_true] at h3;exact⟨h3.1.1,of_decide_eq_true h3.1.2,fun f hf=>List.all_eq_true.1 h3.2 f.pl (List.mem_map.2 ⟨f,hf,rfl⟩)⟩
 ·rintro⟨h1,h2⟩
  refine⟨decide_eq_true h1,?_⟩;intro y hy;obtain⟨x,hx,rfl⟩:=List.mem_map.1 hy;obtain⟨k1,k2,k3⟩:=h2 x hx;rw[Bool.and_eq_true,Bool.and_eq_true];refine⟨⟨k1,decide_eq_true k2⟩,List.all_eq_true.2 fun g hg=>?_⟩;obtain⟨f,hf,rfl⟩:=List.mem_map.1 hg;exact k3 f hf
theorem wJ {L:List LyR}(h:okL L)(k:Nat):okL (L.take k):=by
 obtain⟨h1,h2⟩:=h;refine⟨?_,fun a ha=>h2 a (List.mem_of_mem_take ha)⟩;rw[List.map_take];exact h1.sublist (List.take_sublist _ _)
theorem wK {L:List LyR}{k:Nat}(hk:k<L.length):okL (L.take (k+1))↔okL (L.take k)/\L[k].nm∉(L.take k).map LyR.nm/\okX L[k]:=by
 rw[List.take_succ_eq_append_getElem hk];unfold okL;rw[List.map_append,List.nodup_append]
 constructor
 ·rintro⟨⟨h1,-,h2⟩,h3⟩
  exact⟨⟨h1,fun a ha=>h3 a (List.mem_append.2 (.inl ha))⟩,fun hm=>h2 _ hm _ (by simp) rfl,h3 L[k] (List.mem_append.2 (.inr (List.mem_singleton.2 rfl)))⟩
 ·rintro⟨⟨h1,h2⟩,h3,h4⟩
  refine⟨⟨h1,by simp,?_⟩,?_⟩
  ·intro a ha b hb e
   simp only[List.map_cons,List.map_nil,List.mem_singleton] at hb;exact h3 (hb▸e▸ha)
  ·intro a ha
   rcases List.mem_append.1 ha with ha|ha
   ·exact h2 a ha
   ·rw[List.mem_singleton.1 ha];exact h4
def FewB (L:List LyR):Prop:=∀ x∈L,∀ f∈x.F,f.B.length<=1000000
theorem xT {F:List FtR}{j:Nat}(hj:j<F.length)(h:∀ f∈F.take j,eJ f.pl=true)(h2:eJ F[j].pl=true):∀ f∈F.take (j+1),eJ f.pl=true:=by
 intro f hf;rw[List.take_succ_eq_append_getElem hj] at hf;rcases List.mem_append.1 hf with hf|hf
 ·exact h f hf
 ·rw[List.mem_singleton.1 hf];exact h2
set_option maxHeartbeats 4000000 in
theorem pM (lv:Value)(L:List LyR)(S:Nat->Prop)(w:World)(hl:kV w S lv L)(hok:∀ x∈L,x.ok)(hT:kD w)(hn:FewB L)(hLn:L.length<=1000000){R:Ending->World->Prop}(hR:∀ (c:Bool) w',(c=true↔bC (L.map LyR.pl)=true)->aB w w'->R (.returned (.bool c)) w'):
  Calls Tryz.prog 14 #[lv] w R:=by
 have HR:=Lh hR;have RF:=Lh (okL_iff L);have OK:=Lh hok;have HT:=Lh hT;have HN:=Lh hn;obtain⟨hv,hx⟩:=hl;have HX:=Lh hx;clear hR hok hT hn hx;have hv:=hv.lt (by decide);obtain⟨_,A,c,rfl,h1,h2,h3,h4⟩:=hv;unfold maxLen at h2;have NO:Hid (¬ okL L->∀ w',aB w w'->R (.returned (.bool false)) w'):=fun h w' hg=>HR.out false w' ⟨fun h2=>(by cases h2),fun h2=>absurd (RF.out.1 h2) h⟩ hg
 have YS:Hid (okL L->∀ w',aB w w'->R (.returned (.bool true)) w'):=fun h w' hg=>HR.out true w' ⟨fun _=>RF.out.2 h,fun _=>rfl⟩ hg
 clear HR RF;have hmm:=@run_makeMap Tryz.prog
 have M1:Hid (eP Tryz.prog 9 (w.alloc (.map #[] 0)) w.heap.size 0 (iK Value.string [])):=by
  rw[pT];exact eP.made w Tryz.prog 9
 have G1:=Lh ((aB.refl w).al (.map #[] 0));go_enter Tryz.func14,Tryz.ntmps14
 go_wp2
 obtain⟨mb,hmb⟩:∃ mb,w.heap.size=mb:=⟨_,rfl⟩
 generalize w.alloc (.map #[] 0)=wm at*;rw[hmb] at M1;rw[hmb];have LB:Hid (w.heap.size<=mb):=by show _<=_;omega
 clear hmb
 go_loopw [11] (fun i wr=>∃ k:Nat,k<=L.length/\i=.int .i64 k/\Hid (okL (L.take k))/\Hid (eP Tryz.prog 9 wr mb k (iK Value.string ((L.take k).map LyR.nm)))/\Hid (aB w wr)) (fun i _=>L.length-(intOf i).toNat)
 case atStart=>exact⟨0,Nat.zero_le _,rfl,⟨by simp,by simp⟩,M1.out,G1.out⟩
 case round=>
  clear M1 G1;obtain⟨k,hk,rfl,ho,hm,hg⟩:=hrel
  by_cases hlt:k<L.length
  ·obtain⟨b1,o1,rfl,hb1,hc1⟩:=h4 (by omega)
   have e1:=aL LyR.cells_len hg.out hb1 hc1 hlt;have SU:=Lh (wK hlt);have TK:Hid ((L.take (k+1)).map LyR.nm=(L.take k).map LyR.nm++[L[k].nm]):=by show _=_;rw[List.take_succ_eq_append_getElem hlt,List.map_append];rfl
   have OX:=OK.out L[k] (List.getElem_mem hlt);have RX:=HX.out L[k] (List.getElem_mem hlt);have NX:=Lh (HN.out L[k] (List.getElem_mem hlt));have BAD:Hid (¬ okL (L.take (k+1))->∀ w',aB w w'->R (.returned (.bool false)) w'):=fun h=>NO.out fun h2=>h (wJ h2 _)
   clear hc1 h4 h3 NO YS;generalize L[k]=x at*;generalize (L.take k).map LyR.nm=M at*;obtain⟨xn,xe,xv,xF⟩:=x;have d0:=e1 0 _ rfl;have d1:=e1 1 _ rfl;have d2:=e1 2 _ rfl;simp only[Nat.add_zero] at d0;clear e1;unfold okX at SU;dsimp only at SU TK NX;obtain⟨ok1,ok2,ok3⟩:=OX;dsimp only at ok1 ok2 ok3;have OF:=Lh ok3;obtain⟨r1,r2⟩:=RX;dsimp only at r1 r2;have RF2:=Lh r2;have r1:=r1.lt (by decide);obtain⟨_,Y,cy,rfl,y1,y2,y3,y4⟩:=r1;unfold maxLen at y2 ok1
   have VA:=Lh fun W (hg:aB w W) (R:Ending->World->Prop) hR=>fF xn (by omega) W (HT.out.gr hg) (R:=R) hR
   have XK:=Lh (yD (s:=xn) (by unfold maxLen;omega));have AT:=Lh (tN tI M xn);have PU:=Lh (pS (c:=Value.string) M xn);unfold I64 at ok2;clear ok1 ok3 r2;go_upto_region 5 with fail
   have BA:=Lh (aN.laid #[.string xn,.int .i64 xe,.slice Y xF.length cy] 24 (aB.refl wr));have G2:=Lh (hg.out.al (.cells #[.string xn,.int .i64 xe,.slice Y xF.length cy] 24));have M2:=Lh (hm.out.gr ((aB.refl wr).al (.cells #[.string xn,.int .i64 xe,.slice Y xF.length cy] 24)));have GW:=Lh hg.out;clear d0 d1 d2 hg hm;generalize wr.alloc (.cells #[.string xn,.int .i64 xe,.slice Y xF.length cy] 24)=wa at*;have q0:=BA.out.cell 0
   by_cases hin:xn∈M
   ·have AT:Hid (iK Value.string M (.string xn)=some (.bool true)):=AT.out.trans (if_pos hin)
    have FIN:=Lh (BAD.out fun h=>(SU.out.1 h).2.1 hin);clear BAD SU VA;go_wp2_with (at_lookup;refine eQ _ rfl _ _ _ rfl M2.out rfl uB Tryz.underlying62 (rR _) (key:=.string xn) rfl XK.out (v:=.bool true) (by rw[AT.out];rfl) ?_)
    exact FIN.out _ G2.out
   ·have AT:Hid (iK Value.string M (.string xn)=none):=AT.out.trans (if_neg hin)
    go_wp2_with (at_lookup;refine eQ _ rfl _ _ _ rfl M2.out rfl uB Tryz.underlying62 (rR _) (key:=.string xn) rfl XK.out (v:=.bool false) (by rw[AT.out];rfl) ?_)
    go_at_call 25;refine VA.out _ G2.out _ ?_;intro w3 hg3;have BA:=Lh (BA.out.tr hg3);have G3:=Lh (G2.out.tr hg3);have M3:=Lh (M2.out.gr hg3);clear hg3 VA q0 G2 M2
    cases hv:Lib.validD xn.data.toList with
    |false=>
     have FIN:=Lh (BAD.out fun h=>by have:=(SU.out.1 h).2.2.1;rw[hv] at this;cases this);clear BAD SU hv;go_wp2;exact FIN.out _ G3.out
    |true=>
     have q0:=BA.out.cell 0;have q1:=BA.out.cell 1
     by_cases hlo:xe<1
     ·have FIN:=Lh (BAD.out fun h=>by have:=(SU.out.1 h).2.2.2.1;omega)
      clear BAD SU hv;have t1:decide (xe<1)=true:=decide_eq_true hlo;go_wp2;exact FIN.out _ G3.out
     ·have t1:decide (xe<1)=false:=decide_eq_false hlo
      by_cases hhi:65536<xe
      ·have t2:decide (65536<xe)=true:=decide_eq_true hhi
       have FIN:=Lh (BAD.out fun h=>by have:=(SU.out.1 h).2.2.2.1;omega);clear BAD SU hv;go_wp2;exact FIN.out _ G3.out
      ·have t2:decide (65536<xe)=false:=decide_eq_false hhi
       have OK1:Hid ((∀ f∈xF,eJ f.pl=true)->okL (L.take (k+1))):=fun h=>SU.out.2 ⟨ho.out,hin,hv,⟨by omega,by omega⟩,h⟩
       have BAD1:Hid (¬ (∀ f∈xF,eJ f.pl=true)->∀ w',aB w w'->R (.returned (.bool false)) w'):=fun h=>BAD.out fun h2=>h (SU.out.1 h2).2.2.2.2
       clear BAD SU hv hin hlo hhi ok2;go_wp2_with (at_mapUpdate;refine lQ _ rfl _ _ _ _ rfl M3.out rfl uB Tryz.underlying62 (by unfold maxLen;omega) (key:=.string xn) (val:=.bool true) rfl rfl XK.out PU.out.1 PU.out.2 ?_;intro w5 hm5 hg5;have M5:=Lh hm5;have G5:=Lh (bK G3.out hg5 fun j e=>by injection e with e;have:=LB.out;omega);have q2:=(aN.by_ (BA.out.base GW.out) hg5 (fun j e=>by injection e with e;have:=LB.out;omega) (fun e=>by injection e with e;exact M3.out.ne_box BA.out.2.2 e)).cell 2;clear hm5 hg5 q0 q1)
       clear BA G3 M3 GW
       go_loopw [41] (fun i wr=>∃ j:Nat,j<=xF.length/\i=.int .i64 j/\Hid (∀ f∈xF.take j,eJ f.pl=true)/\Hid (eP Tryz.prog 9 wr mb (k+1) (iK Value.string (M++[xn])))/\Hid (aB w wr)) (fun i _=>xF.length-(intOf i).toNat)
       case atStart=>exact⟨0,Nat.zero_le _,rfl,(by show ∀ f∈_,_;simp),M5.out,G5.out⟩
       case round=>
        clear M5 G5 q2;obtain⟨j,hj,rfl,ha,hm,hg⟩:=hrel
        by_cases hjl:j<xF.length
        ·obtain⟨b2,o2,rfl,hb2,hc2⟩:=y4 (by omega)
         have e2:=aL FtR.cells_len hg.out hb2 hc2 hjl;have OJ:=OF.out xF[j] (List.getElem_mem hjl);have RJ:=RF2.out xF[j] (List.getElem_mem hjl);have NJ:=NX.out xF[j] (List.getElem_mem hjl);have SN:=Lh (xT hjl ha.out);have BAD2:Hid (¬ eJ xF[j].pl=true->∀ w',aB w w'->R (.returned (.bool false)) w'):=fun h=>BAD1.out fun h2=>h (h2 _ (List.getElem_mem hjl))
         clear hc2 y4 y3 BAD1 OK1 ha;generalize xF[j]=y at*;obtain⟨X1,X2,X3,X4,X5,X6,hx1,hx2⟩:=RJ.fm;have RI:=Lh fun W (hg:aB w W) (R:Ending->World->Prop) hR=>vU y _ W (RJ.gr hg) OJ (HT.out.gr hg) NJ (R:=R) hR
         obtain⟨⟨yh,yi,yt,yp,yv⟩,yA,yB⟩:=y;dsimp only at hx1 hx2;subst hx1 hx2;have u0:=e2 0 _ rfl;have u1:=e2 1 _ rfl;have u2:=e2 2 _ rfl;have u3:=e2 3 _ rfl;have u4:=e2 4 _ rfl;simp only[Nat.add_zero] at u0;unfold FtR.cells Ft.cells at RI;dsimp only at RI;clear e2 OJ RJ NJ;go_wp2_with fail
         go_at_call 26;refine RI.out _ (hg.out.al _) _ ?_;intro cc w6 hc hg6;have M6:=Lh (hm.out.gr (((aB.refl wr).al _).tr hg6));have G6:=Lh ((hg.out.al _).tr hg6);clear hg6 hm hg u0 u1 u2 u3 u4 RI
         cases cc with
         |false=>
          have FIN:=Lh (BAD2.out fun h=>by have:=hc.2 h;cases this);clear hc SN BAD2;go_wp2;exact FIN.out _ G6.out
         |true=>
          have A6:=Lh (SN.out (hc.1 rfl));clear hc SN BAD2;go_wp2;go_roundw
          case rel=>exact⟨j+1,by omega,by go_num,A6.out,M6.out,G6.out⟩
          case measure=>simp[intOf];omega
        ·obtain rfl:j=xF.length:=by omega
         rw[List.take_length] at ha;have OK2:=Lh (OK1.out ha.out);clear BAD1 OK1 ha;go_wp2;go_roundw
         case rel=>exact⟨k+1,by omega,by go_num,OK2.out,(by show eP _ _ _ _ _ _;rw[TK.out];exact hm.out),hg.out⟩
         case measure=>simp[intOf];omega
  ·obtain rfl:k=L.length:=by omega
   rw[List.take_length] at ho;have FIN:=Lh (YS.out ho.out);clear NO YS;go_wp2;exact FIN.out _ hg.out
end Go.Proofs.YtjalimkajcjapaaGreatDoor
