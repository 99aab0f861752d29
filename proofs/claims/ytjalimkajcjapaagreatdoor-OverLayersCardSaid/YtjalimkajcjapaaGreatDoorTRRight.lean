import Derived.Test.YtjalimkajcjapaaGreatDoorTRight
namespace Go.Proofs.YtjalimkajcjapaaGreatDoor
set_option maxRecDepth 100000
open Go.RowKit B
set_option maxHeartbeats 4000000 in
theorem tQ (f:FtR)(S:Nat->Prop)(w:World)(hf:f.rd w S)(hok:f.ok)(hT:kD w)(hn:f.B.length<=1000000){R:Ending->World->Prop}(hR:∀ (c:Bool) w',(c=true↔eJ f.pl=true)->aB w w'->R (.returned (.bool c)) w'):
  Calls Tryz.prog 33 #[.agg f.cells.toArray] w R:=by
 have HR:=Lh hR;have RF:=Lh (lT f);have OA:=Lh hok.atr;have HT:=Lh hT;clear hR hok hT;obtain⟨⟨xh,xi,xt,xp,xv⟩,xA,xB⟩:=f;obtain⟨r1,r2,r3⟩:=hf;dsimp only at r1 r2 r3 RF OA hn;obtain⟨X1,X2,X3,hx1⟩:=r1.form;subst hx1;have r3:=r3.lt (by decide);have PR:=Lh fun W (hg:aB w W) (R:Ending->World->Prop) hR=>kL xt _ xA _ _ W (r1.gr2 (by decide) hg) (fun r hr=>(r2 r hr).gr2 (by decide) hg) (R:=R) hR
 clear r1 r2;obtain⟨_,Y,cy,rfl,y1,y2,y3,y4⟩:=r3;unfold maxLen at y2;unfold FtR.cells Ft.cells;dsimp only;generalize hp:aT xt xA=p at*;clear hp;have NO:Hid (¬ (p=0/\(xh=true∨xi=0)/\okB xB)->∀ w',aB w w'->R (.returned (.bool false)) w'):=fun h w' hg=>HR.out false w' ⟨fun h2=>(by cases h2),fun h2=>absurd (RF.out.1 h2) h⟩ hg
 have YS:Hid ((p=0/\(xh=true∨xi=0)/\okB xB)->∀ w',aB w w'->R (.returned (.bool true)) w'):=fun h w' hg=>HR.out true w' ⟨fun _=>RF.out.2 h,fun _=>rfl⟩ hg
 clear HR RF;have BX:=Lh (aN.laid #[.bool xh,.int .u64 xi,.int .i64 xt,.slice X1 X2 X3,.slice Y xB.length cy] 44 (aB.refl w));go_enter Tryz.func33,Tryz.ntmps33
 go_wp2_with fail
 go_at_call 23;refine PR.out _ BX.out.grow _ ?_;intro w1 hg1;have BX:=Lh (BX.out.tr hg1);clear hg1 PR;have x0:=BX.out.cell 0;have x1:=BX.out.cell 1
 by_cases p0:p=0
 ·have tp:(p != 0)=false:=by simp[p0]
  cases xh with
  |true=>
   clear tp;subst p0;have p0:(0:Int)=0:=rfl;have YS1:Hid (okB xB->∀ w',aB w w'->R (.returned (.bool true)) w'):=fun h=>YS.out ⟨p0,.inl rfl,h⟩
   have NO1:Hid (¬ okB xB->∀ w',aB w w'->R (.returned (.bool false)) w'):=fun h=>NO.out fun h2=>h h2.2.2
   clear YS NO;go_wp2;clear x0 x1 p0
   go_loopw [3] (fun i wr=>∃ k:Nat,k<=xB.length/\i=.int .i64 k/\Hid (okB (xB.take k))/\Hid (aN w w.heap.size #[.bool true,.int .u64 xi,.int .i64 xt,.slice X1 X2 X3,.slice Y xB.length cy] 44 wr)) (fun i _=>xB.length-(intOf i).toNat)
   case atStart=>exact⟨0,Nat.zero_le _,rfl,⟨by simp,by simp⟩,BX.out⟩
   case round=>
    clear BX;obtain⟨k,hk,rfl,ho,hB⟩:=hrel;have x4:=hB.out.cell 4
    by_cases hlt:k<xB.length
    ·obtain⟨b1,o1,rfl,hb1,hc1⟩:=y4 (by omega)
     have e1:=fun W (h:aB w W)=>aL Atr.cells_len h hb1 hc1 hlt
     have ea:=fun W (h:aB w W) i (hi:i<xB.length)=>aL Atr.cells_len h hb1 hc1 hi
     have SU:=Lh (mS hlt);have OX:=Lh (OA.out xB[k] (List.getElem_mem hlt));have BAD:Hid (¬ okB (xB.take (k+1))->∀ w',aB w w'->R (.returned (.bool false)) w'):=fun h=>NO1.out fun h2=>h (mR h2 _)
     clear y4 y3 NO1 YS1;have KM:Hid (∀ i (h:i<xB.length) (W:World),aB w W->W.cell? ⟨b1,o1+i*4,none⟩=some (.string xB[i].key)):=fun i h W hg=>ea W hg i h 0 _ rfl
     have TK:Hid (∀ j,(h:j<xB.length)->j<k->(xB.take (j+1)).map Atr.key=(xB.take j).map Atr.key++[xB[j].key]):=fun j h _=>by rw[List.take_succ_eq_append_getElem h,List.map_append];rfl
     have IN:Hid (∀ j,(h:j<xB.length)->j<k->xB[j].key∈(xB.take k).map Atr.key):=fun j h hjk=>List.mem_map.2 ⟨xB[j],List.mem_take_iff_getElem.2 ⟨j,by omega,by simp⟩,rfl⟩
     clear hc1 ea;generalize hy:xB[k]=y at*;clear hy;obtain⟨yk,yv,yt,yb⟩:=y
     have E1:Hid (∀ W,aB w W->W.cell? ⟨b1,o1+k*4,none⟩=some (.string yk)/\W.cell? ⟨b1,o1+k*4+1,none⟩=some (.int .i64 yv)/\W.cell? ⟨b1,o1+k*4+2,none⟩=some (.string yt)/\W.cell? ⟨b1,o1+k*4+3,none⟩=some (.int .u64 yb)):=fun W h=>⟨e1 W h 0 _ rfl,e1 W h 1 _ rfl,e1 W h 2 _ rfl,e1 W h 3 _ rfl⟩
     clear e1;dsimp only at SU;obtain⟨ok1,ok2,ok3,ok4⟩:=OX.out;dsimp only at ok1 ok2 ok3 ok4;unfold maxLen at ok1 ok4;have VA:=Lh fun W (hg:aB w W) (R:Ending->World->Prop) hR=>fF yk (by omega) W (HT.out.gr hg) (R:=R) hR
     have RA:=Lh fun W (hg:aB w W) (R:Ending->World->Prop) hR=>oE ⟨yv,yt,yb⟩ (by dsimp only;omega) W (HT.out.gr hg) (R:=R) hR
     unfold Val.v at RA;dsimp only at RA;clear OX ok1 ok2 ok3 ok4;have d0:=(E1.out wr hB.out.grow).1;go_wp2_with fail
     go_at_call 25;refine VA.out _ hB.out.grow _ ?_;intro w3 hg3;have B3:=Lh (hB.out.tr hg3);clear hg3 VA x4 d0 hB
     cases hv:Lib.validD yk.data.toList with
     |false=>
      have FIN:=Lh (BAD.out fun h=>by have:=(SU.out.1 h).2.2.1;rw[hv] at this;cases this);clear BAD SU RA hv;go_wp2;exact FIN.out _ B3.out.grow
     |true=>
      have x4:=B3.out.cell 4;obtain⟨-,d1,d2,d3⟩:=E1.out w3 B3.out.grow;go_wp2_with fail
      go_at_call 59;refine RA.out _ B3.out.grow _ ?_;intro w4 hg4;have B4:=Lh (B3.out.tr hg4);clear hg4 RA x4 d1 d2 d3 B3
      cases hr:cU ⟨yv,yt,yb⟩ with
      |false=>
       have FIN:=Lh (BAD.out fun h=>by have:=(SU.out.1 h).2.2.2;rw[hr] at this;cases this);clear BAD SU hr;go_wp2;exact FIN.out _ B4.out.grow
      |true=>
       have OK1:Hid (yk∉(xB.take k).map Atr.key->okB (xB.take (k+1))):=fun h=>SU.out.2 ⟨ho.out,h,hv,hr⟩
       have BAD1:Hid (yk∈(xB.take k).map Atr.key->∀ w',aB w w'->R (.returned (.bool false)) w'):=fun h=>BAD.out fun h2=>(SU.out.1 h2).2.1 h
       clear BAD SU hr hv;go_wp2
       go_loopw [4] (fun i wr=>∃ j:Nat,j<=k/\i=.int .i64 j/\Hid (yk∉(xB.take j).map Atr.key)/\Hid (aN w w.heap.size #[.bool true,.int .u64 xi,.int .i64 xt,.slice X1 X2 X3,.slice (some ⟨b1,o1,none⟩) xB.length cy] 44 wr)) (fun i _=>k-(intOf i).toNat)
       case atStart=>exact⟨0,Nat.zero_le _,rfl,(by show _∉_;simp),B4.out⟩
       case round=>
        clear B4;obtain⟨j,hj,rfl,hn,hB⟩:=hrel
        by_cases hjk:j<k
        ·have x4:=hB.out.cell 4
         have d0:=(E1.out wr hB.out.grow).1;have c0:=KM.out j (by omega) wr hB.out.grow;have TJ:=Lh (TK.out j (by omega) hjk);have IJ:=Lh (IN.out j (by omega) hjk);generalize xB[j]'(by omega)=z at*
         by_cases hz:z.key.toList=yk.toList
         ·have tz:(z.key.toList==yk.toList)=true:=by rw[beq_iff_eq];exact hz
          have FIN:=Lh (BAD1.out (nZ hz▸IJ.out));clear hz;go_wp2
          go_quiet (fail)
          go_wp2;exact FIN.out _ (hB.out.grow.dn _)
         ·have tz:(z.key.toList==yk.toList)=false:=by rw[beq_eq_false_iff_ne];exact hz
          have N2:Hid (yk∉(xB.take (j+1)).map Atr.key):=by
           show _∉_;rw[TJ.out];intro h;rcases List.mem_append.1 h with h|h
           ·exact hn.out h
           ·exact hz (by rw[List.mem_singleton.1 h])
          clear hz;go_wp2
          go_quiet (fail)
          go_wp2;go_roundw
          case rel=>exact⟨j+1,by omega,by go_num,N2.out,hB.out.tr ((aB.refl _).dn _)⟩
          case measure=>simp[intOf];omega
        ·obtain rfl:j=k:=by omega
         have OK2:=Lh (OK1.out hn.out);clear OK1 BAD1 hn;go_wp2;go_roundw
         case rel=>exact⟨j+1,by omega,by go_num,OK2.out,hB.out⟩
         case measure=>simp[intOf];omega
    ·obtain rfl:k=xB.length:=by omega
     rw[List.take_length] at ho;have FIN:=Lh (YS1.out ho.out);clear NO1 YS1;go_wp2;exact FIN.out _ hB.out.grow
  |false=>
   by_cases hi:xi=0
   ·subst p0
    have p0:(0:Int)=0:=rfl;subst hi;clear tp;have YS1:Hid (okB xB->∀ w',aB w w'->R (.returned (.bool true)) w'):=fun h=>YS.out ⟨p0,.inr rfl,h⟩
    have NO1:Hid (¬ okB xB->∀ w',aB w w'->R (.returned (.bool false)) w'):=fun h=>NO.out fun h2=>h h2.2.2
    clear YS NO;go_wp2;clear x0 x1 p0
    go_loopw [3] (fun i wr=>∃ k:Nat,k<=xB.length/\i=.int .i64 k/\Hid (okB (xB.take k))/\Hid (aN w w.heap.size #[.bool false,.int .u64 ((0:Nat):Int),.int .i64 xt,.slice X1 X2 X3,.slice Y xB.length cy] 44 wr)) (fun i _=>xB.length-(intOf i).toNat)
    case atStart=>exact⟨0,Nat.zero_le _,rfl,⟨by simp,by simp⟩,BX.out⟩
    case round=>
     clear BX;obtain⟨k,hk,rfl,ho,hB⟩:=hrel;have x4:=hB.out.cell 4
     by_cases hlt:k<xB.length
     ·obtain⟨b1,o1,rfl,hb1,hc1⟩:=y4 (by omega)
      have e1:=fun W (h:aB w W)=>aL Atr.cells_len h hb1 hc1 hlt
      have ea:=fun W (h:aB w W) i (hi:i<xB.length)=>aL Atr.cells_len h hb1 hc1 hi
      have SU:=Lh (mS hlt);have OX:=Lh (OA.out xB[k] (List.getElem_mem hlt));have BAD:Hid (¬ okB (xB.take (k+1))->∀ w',aB w w'->R (.returned (.bool false)) w'):=fun h=>NO1.out fun h2=>h (mR h2 _)
      clear y4 y3 NO1 YS1;have KM:Hid (∀ i (h:i<xB.length) (W:World),aB w W->W.cell? ⟨b1,o1+i*4,none⟩=some (.string xB[i].key)):=fun i h W hg=>ea W hg i h 0 _ rfl
      have TK:Hid (∀ j,(h:j<xB.length)->j<k->(xB.take (j+1)).map Atr.key=(xB.take j).map Atr.key++[xB[j].key]):=fun j h _=>by rw[List.take_succ_eq_append_getElem h,List.map_append];rfl
      have IN:Hid (∀ j,(h:j<xB.length)->j<k->xB[j].key∈(xB.take k).map Atr.key):=fun j h hjk=>List.mem_map.2 ⟨xB[j],List.mem_take_iff_getElem.2 ⟨j,by omega,by simp⟩,rfl⟩
      clear hc1 ea;generalize hy:xB[k]=y at*;clear hy;obtain⟨yk,yv,yt,yb⟩:=y
      have E1:Hid (∀ W,aB w W->W.cell? ⟨b1,o1+k*4,none⟩=some (.string yk)/\W.cell? ⟨b1,o1+k*4+1,none⟩=some (.int .i64 yv)/\W.cell? ⟨b1,o1+k*4+2,none⟩=some (.string yt)/\W.cell? ⟨b1,o1+k*4+3,none⟩=some (.int .u64 yb)):=fun W h=>⟨e1 W h 0 _ rfl,e1 W h 1 _ rfl,e1 W h 2 _ rfl,e1 W h 3 _ rfl⟩
      clear e1;dsimp only at SU;obtain⟨ok1,ok2,ok3,ok4⟩:=OX.out;dsimp only at ok1 ok2 ok3 ok4;unfold maxLen at ok1 ok4;have VA:=Lh fun W (hg:aB w W) (R:Ending->World->Prop) hR=>fF yk (by omega) W (HT.out.gr hg) (R:=R) hR
      have RA:=Lh fun W (hg:aB w W) (R:Ending->World->Prop) hR=>oE ⟨yv,yt,yb⟩ (by dsimp only;omega) W (HT.out.gr hg) (R:=R) hR
      unfold Val.v at RA;dsimp only at RA;clear OX ok1 ok2 ok3 ok4;have d0:=(E1.out wr hB.out.grow).1;go_wp2_with fail
      go_at_call 25;refine VA.out _ hB.out.grow _ ?_;intro w3 hg3;have B3:=Lh (hB.out.tr hg3);clear hg3 VA x4 d0 hB
      cases hv:Lib.validD yk.data.toList with
      |false=>
       have FIN:=Lh (BAD.out fun h=>by have:=(SU.out.1 h).2.2.1;rw[hv] at this;cases this);clear BAD SU RA hv;go_wp2;exact FIN.out _ B3.out.grow
      |true=>
       have x4:=B3.out.cell 4;obtain⟨-,d1,d2,d3⟩:=E1.out w3 B3.out.grow;go_wp2_with fail
       go_at_call 59;refine RA.out _ B3.out.grow _ ?_;intro w4 hg4;have B4:=Lh (B3.out.tr hg4);clear hg4 RA x4 d1 d2 d3 B3
       cases hr:cU ⟨yv,yt,yb⟩ with
       |false=>
        have FIN:=Lh (BAD.out fun h=>by have:=(SU.out.1 h).2.2.2;rw[hr] at this;cases this);clear BAD SU hr;go_wp2;exact FIN.out _ B4.out.grow
       |true=>
        have OK1:Hid (yk∉(xB.take k).map Atr.key->okB (xB.take (k+1))):=fun h=>SU.out.2 ⟨ho.out,h,hv,hr⟩
        have BAD1:Hid (yk∈(xB.take k).map Atr.key->∀ w',aB w w'->R (.returned (.bool false)) w'):=fun h=>BAD.out fun h2=>(SU.out.1 h2).2.1 h
        clear BAD SU hr hv;go_wp2
        go_loopw [4] (fun i wr=>∃ j:Nat,j<=k/\i=.int .i64 j/\Hid (yk∉(xB.take j).map Atr.key)/\Hid (aN w w.heap.size #[.bool false,.int .u64 ((0:Nat):Int),.int .i64 xt,.slice X1 X2 X3,.slice (some ⟨b1,o1,none⟩) xB.length cy] 44 wr)) (fun i _=>k-(intOf i).toNat)
        case atStart=>exact⟨0,Nat.zero_le _,rfl,(by show _∉_;simp),B4.out⟩
        case round=>
         clear B4;obtain⟨j,hj,rfl,hn,hB⟩:=hrel
         by_cases hjk:j<k
         ·have x4:=hB.out.cell 4
          have d0:=(E1.out wr hB.out.grow).1;have c0:=KM.out j (by omega) wr hB.out.grow;have TJ:=Lh (TK.out j (by omega) hjk);have IJ:=Lh (IN.out j (by omega) hjk);generalize xB[j]'(by omega)=z at*
          by_cases hz:z.key.toList=yk.toList
          ·have tz:(z.key.toList==yk.toList)=true:=by rw[beq_iff_eq];exact hz
           have FIN:=Lh (BAD1.out (nZ hz▸IJ.out));clear hz;go_wp2
           go_quiet (fail)
           go_wp2;exact FIN.out _ (hB.out.grow.dn _)
          ·have tz:(z.key.toList==yk.toList)=false:=by rw[beq_eq_false_iff_ne];exact hz
           have N2:Hid (yk∉(xB.take (j+1)).map Atr.key):=by
            show _∉_;rw[TJ.out];intro h;rcases List.mem_append.1 h with h|h
            ·exact hn.out h
            ·exact hz (by rw[List.mem_singleton.1 h])
           clear hz;go_wp2
           go_quiet (fail)
           go_wp2;go_roundw
           case rel=>exact⟨j+1,by omega,by go_num,N2.out,hB.out.tr ((aB.refl _).dn _)⟩
           case measure=>simp[intOf];omega
         ·obtain rfl:j=k:=by omega
          have OK2:=Lh (OK1.out hn.out);clear OK1 BAD1 hn;go_wp2;go_roundw
          case rel=>exact⟨j+1,by omega,by go_num,OK2.out,hB.out⟩
          case measure=>simp[intOf];omega
     ·obtain rfl:k=xB.length:=by omega
      rw[List.take_length] at ho;have FIN:=Lh (YS1.out ho.out);clear NO1 YS1;go_wp2;exact FIN.out _ hB.out.grow
   ·have ti:decide (0<(xi:Int))=true:=decide_eq_true (by omega)
    have ti2:decide (0<xi)=true:=decide_eq_true (by omega);have FIN:=Lh (NO.out fun h=>by rcases h.2.1 with h|h;cases h;exact hi h);subst p0;clear tp NO YS;go_wp2;exact FIN.out _ BX.out.grow
 ·have tp:(p != 0)=true:=by simp[p0]
  have FIN:=Lh (NO.out fun h=>p0 h.1);clear NO YS p0;go_wp2;exact FIN.out _ BX.out.grow
set_option maxHeartbeats 4000000 in
theorem oH (lv:Value)(L:List LyR)(S:Nat->Prop)(w:World)(hl:kV w S lv L)(hok:∀ x∈L,x.ok)(hT:kD w)(hn:FewB L){R:Ending->World->Prop}(hR:∀ (c:Bool) w',(c=true↔bC (L.map LyR.pl)=true)->aB w w'->R (.returned (.bool c)) w'):
  Calls Tryz.prog 18 #[lv] w R:=by
 have HR:=Lh hR;have RF:=Lh (okL_iff L);have OK:=Lh hok;have HT:=Lh hT;have HN:=Lh hn;obtain⟨hv,hx⟩:=hl;have HX:=Lh hx;clear hR hok hT hn hx;have hv:=hv.lt (by decide);obtain⟨_,A,c,rfl,h1,h2,h3,h4⟩:=hv;unfold maxLen at h2;have NO:Hid (¬ okL L->∀ w',aB w w'->R (.returned (.bool false)) w'):=fun h w' hg=>HR.out false w' ⟨fun h2=>(by cases h2),fun h2=>absurd (RF.out.1 h2) h⟩ hg
 have YS:Hid (okL L->∀ w',aB w w'->R (.returned (.bool true)) w'):=fun h w' hg=>HR.out true w' ⟨fun _=>RF.out.2 h,fun _=>rfl⟩ hg
 clear HR RF;go_enter Tryz.func18,Tryz.ntmps18
 go_wp2
 go_loopw [3] (fun i wr=>∃ k:Nat,k<=L.length/\i=.int .i64 k/\Hid (okL (L.take k))/\Hid (aB w wr)) (fun i _=>L.length-(intOf i).toNat)
 case atStart=>exact⟨0,Nat.zero_le _,rfl,⟨by simp,by simp⟩,aB.refl _⟩
 case round=>
  obtain⟨k,hk,rfl,ho,hg⟩:=hrel
  by_cases hlt:k<L.length
  ·obtain⟨b1,o1,rfl,hb1,hc1⟩:=h4 (by omega)
   have ea:=fun W (h:aB w W) i (hi:i<L.length)=>aL LyR.cells_len h hb1 hc1 hi
   have e1:=fun W (h:aB w W)=>aL LyR.cells_len h hb1 hc1 hlt
   have SU:=Lh (wK hlt);have OX:=OK.out L[k] (List.getElem_mem hlt);have RX:=HX.out L[k] (List.getElem_mem hlt);have NX:=Lh (HN.out L[k] (List.getElem_mem hlt));have BAD:Hid (¬ okL (L.take (k+1))->∀ w',aB w w'->R (.returned (.bool false)) w'):=fun h=>NO.out fun h2=>h (wJ h2 _)
   have KM:Hid (∀ i (h:i<L.length) (W:World),aB w W->W.cell? ⟨b1,o1+i*3,none⟩=some (.string L[i].nm)):=fun i h W hg=>ea W hg i h 0 _ rfl
   have TK:Hid (∀ j,(h:j<L.length)->j<k->(L.take (j+1)).map LyR.nm=(L.take j).map LyR.nm++[L[j].nm]):=fun j h _=>by rw[List.take_succ_eq_append_getElem h,List.map_append];rfl
   have IN:Hid (∀ j,(h:j<L.length)->j<k->L[j].nm∈(L.take k).map LyR.nm):=fun j h hjk=>List.mem_map.2 ⟨L[j],List.mem_take_iff_getElem.2 ⟨j,by omega,by simp⟩,rfl⟩
   clear hc1 ea h4 h3 NO YS;generalize hy:L[k]=x at*;clear hy;obtain⟨xn,xe,xv,xF⟩:=x;unfold okX at SU;dsimp only at SU NX;obtain⟨ok1,ok2,ok3⟩:=OX;dsimp only at ok1 ok2 ok3;have OF:=Lh ok3;obtain⟨r1,r2⟩:=RX;dsimp only at r1 r2;have RF2:=Lh r2;have r1:=r1.lt (by decide);obtain⟨_,Y,cy,rfl,y1,y2,y3,y4⟩:=r1
   have E1:Hid (∀ W,aB w W->W.cell? ⟨b1,o1+k*3,none⟩=some (.string xn)/\W.cell? ⟨b1,o1+k*3+1,none⟩=some (.int .i64 xe)/\W.cell? ⟨b1,o1+k*3+2,none⟩=some (.slice Y xF.length cy)):=fun W h=>⟨e1 W h 0 _ rfl,e1 W h 1 _ rfl,e1 W h 2 _ rfl⟩
   clear e1;unfold maxLen at y2 ok1;have VA:=Lh fun W (hg:aB w W) (R:Ending->World->Prop) hR=>fF xn (by omega) W (HT.out.gr hg) (R:=R) hR
   unfold I64 at ok2;clear ok1 ok3 r2;have d0:=(E1.out wr hg.out).1;go_wp2_with fail
   go_at_call 25;refine VA.out _ hg.out _ ?_;intro w3 hg3;have G3:=Lh (hg.out.tr hg3);clear hg3 VA d0 hg
   cases hv:Lib.validD xn.data.toList with
   |false=>
    have FIN:=Lh (BAD.out fun h=>by have:=(SU.out.1 h).2.2.1;rw[hv] at this;cases this);clear BAD SU hv;go_wp2;exact FIN.out _ G3.out
   |true=>
    have d1:=(E1.out w3 G3.out).2.1
    by_cases hlo:xe<1
    ·have FIN:=Lh (BAD.out fun h=>by have:=(SU.out.1 h).2.2.2.1;omega)
     clear BAD SU hv;have t1:decide (xe<1)=true:=decide_eq_true hlo;go_wp2;exact FIN.out _ G3.out
    ·have t1:decide (xe<1)=false:=decide_eq_false hlo
     by_cases hhi:65536<xe
     ·have t2:decide (65536<xe)=true:=decide_eq_true hhi
      have FIN:=Lh (BAD.out fun h=>by have:=(SU.out.1 h).2.2.2.1;omega);clear BAD SU hv;go_wp2;exact FIN.out _ G3.out
     ·have t2:decide (65536<xe)=false:=decide_eq_false hhi
      have OK1:Hid (xn∉(L.take k).map LyR.nm->(∀ f∈xF,eJ f.pl=true)->okL (L.take (k+1))):=fun h1 h=>SU.out.2 ⟨ho.out,h1,hv,⟨by omega,by omega⟩,h⟩
      have BAD1:Hid (xn∈(L.take k).map LyR.nm->∀ w',aB w w'->R (.returned (.bool false)) w'):=fun h=>BAD.out fun h2=>(SU.out.1 h2).2.1 h
      have BAD2:Hid (¬ (∀ f∈xF,eJ f.pl=true)->∀ w',aB w w'->R (.returned (.bool false)) w'):=fun h=>BAD.out fun h2=>h (SU.out.1 h2).2.2.2.2
      clear BAD SU hv hlo hhi ok2;go_wp2;clear d1 t1 t2
      go_loopw [4] (fun i wr=>∃ j:Nat,j<=k/\i=.int .i64 j/\Hid (xn∉(L.take j).map LyR.nm)/\Hid (aB w wr)) (fun i _=>k-(intOf i).toNat)
      case atStart=>exact⟨0,Nat.zero_le _,rfl,(by show _∉_;simp),G3.out⟩
      case round=>
       clear G3;obtain⟨j,hj,rfl,hn,hg⟩:=hrel
       by_cases hjk:j<k
       ·have d0:=(E1.out wr hg.out).1
        have c0:=KM.out j (by omega) wr hg.out;have TJ:=Lh (TK.out j (by omega) hjk);have IJ:=Lh (IN.out j (by omega) hjk);generalize L[j]'(by omega)=z at*
        by_cases hz:z.nm.toList=xn.toList
        ·have tz:(z.nm.toList==xn.toList)=true:=by rw[beq_iff_eq];exact hz
         have FIN:=Lh (BAD1.out (nZ hz▸IJ.out));clear hz;go_wp2
         go_quiet (fail)
         go_wp2;exact FIN.out _ (hg.out.dn _)
        ·have tz:(z.nm.toList==xn.toList)=false:=by rw[beq_eq_false_iff_ne];exact hz
         have N2:Hid (xn∉(L.take (j+1)).map LyR.nm):=by
          show _∉_;rw[TJ.out];intro h;rcases List.mem_append.1 h with h|h
          ·exact hn.out h
          ·exact hz (by rw[List.mem_singleton.1 h])
         clear hz;go_wp2
         go_quiet (fail)
         go_wp2;go_roundw
         case rel=>exact⟨j+1,by omega,by go_num,N2.out,hg.out.dn _⟩
         case measure=>simp[intOf];omega
       ·obtain rfl:j=k:=by omega
        have OK2:=Lh (OK1.out hn.out);clear OK1 BAD1 hn KM TK IN;go_wp2
        go_loopw [5] (fun i wr=>∃ m:Nat,m<=xF.length/\i=.int .i64 m/\Hid (∀ f∈xF.take m,eJ f.pl=true)/\Hid (aB w wr)) (fun i _=>xF.length-(intOf i).toNat)
        case atStart=>exact⟨0,Nat.zero_le _,rfl,(by show ∀ f∈_,_;simp),hg.out⟩
        case round=>
         clear hg;obtain⟨m,hm,rfl,ha,hg⟩:=hrel;have d2:=(E1.out wr hg.out).2.2
         by_cases hml:m<xF.length
         ·obtain⟨b2,o2,rfl,hb2,hc2⟩:=y4 (by omega)
          have e2:=aL FtR.cells_len hg.out hb2 hc2 hml;have OJ:=OF.out xF[m] (List.getElem_mem hml);have RJ:=RF2.out xF[m] (List.getElem_mem hml);have NJ:=NX.out xF[m] (List.getElem_mem hml);have SN:=Lh (xT hml ha.out);have BAD3:Hid (¬ eJ xF[m].pl=true->∀ w',aB w w'->R (.returned (.bool false)) w'):=fun h=>BAD2.out fun h2=>h (h2 _ (List.getElem_mem hml))
          clear hc2 y4 y3 BAD2 OK2 ha;generalize xF[m]=y at*;obtain⟨X1,X2,X3,X4,X5,X6,hx1,hx2⟩:=RJ.fm;have RI:=Lh fun W (hg:aB w W) (R:Ending->World->Prop) hR=>tQ y _ W (RJ.gr hg) OJ (HT.out.gr hg) NJ (R:=R) hR
          obtain⟨⟨yh,yi,yt,yp,yv⟩,yA,yB⟩:=y;dsimp only at hx1 hx2;subst hx1 hx2;have u0:=e2 0 _ rfl;have u1:=e2 1 _ rfl;have u2:=e2 2 _ rfl;have u3:=e2 3 _ rfl;have u4:=e2 4 _ rfl;simp only[Nat.add_zero] at u0;unfold FtR.cells Ft.cells at RI;dsimp only at RI;clear e2 OJ RJ NJ;go_wp2_with fail
          go_at_call 33;refine RI.out _ hg.out _ ?_;intro cc w6 hc hg6;have G6:=Lh (hg.out.tr hg6);clear hg6 hg u0 u1 u2 u3 u4 RI d2
          cases cc with
          |false=>
           have FIN:=Lh (BAD3.out fun h=>by have:=hc.2 h;cases this);clear hc SN BAD3;go_wp2;exact FIN.out _ G6.out
          |true=>
           have A6:=Lh (SN.out (hc.1 rfl));clear hc SN BAD3;go_wp2;go_roundw
           case rel=>exact⟨m+1,by omega,by go_num,A6.out,G6.out⟩
           case measure=>simp[intOf];omega
         ·obtain rfl:m=xF.length:=by omega
          rw[List.take_length] at ha;have OK3:=Lh (OK2.out ha.out);clear BAD2 OK2 ha;go_wp2;go_roundw
          case rel=>exact⟨j+1,by omega,by go_num,OK3.out,hg.out⟩
          case measure=>simp[intOf];omega
  ·obtain rfl:k=L.length:=by omega
   rw[List.take_length] at ho;have FIN:=Lh (YS.out ho.out);clear NO YS;go_wp2;exact FIN.out _ hg.out
end Go.Proofs.YtjalimkajcjapaaGreatDoor
