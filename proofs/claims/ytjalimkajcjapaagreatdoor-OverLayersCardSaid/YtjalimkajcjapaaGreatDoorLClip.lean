import Derived.Test.YtjalimkajcjapaaGreatDoorLParts
namespace Go.Proofs.YtjalimkajcjapaaGreatDoor
set_option maxRecDepth 100000
open Go.RowKit B
abbrev LS:=List (List aW)×List aW
def iL (st:LS):LS:=(st.1++(if st.2=[] then[] else[st.2]),[])
def nM (st:LS)(p q:Pt)(lo hi:Int):LS:=if (iZ p q lo hi).2.2=true then(st.1,fV (fV st.2 (iZ p q lo hi).1) (iZ p q lo hi).2.1) else st
def mK (l:List Pt)(lo hi:Int)(st:LS)(k:Nat):LS:=
 match l[k]? with
 |none=>st
 |some p=>
  if k=0 then(if p.inside lo hi=true then(st.1,fV st.2 (bI p)) else st)
  else match l[k-1]? with
   |none=>st
   |some q=>if p.inside lo hi=true then nM st q p lo hi else iL (nM st q p lo hi)
def cX (l:List Pt)(lo hi:Int)(k:Nat):LS:=(List.range k).foldl (mK l lo hi) ([],[])
theorem gN (l:List Pt)(lo hi:Int)(k:Nat):cX l lo hi (k+1)=mK l lo hi (cX l lo hi k) k:=by
 unfold cX;rw[List.range_succ,List.foldl_append];rfl
def sY (l:List Pt)(lo hi:Int):List (List aW):=(iL (cX l lo hi l.length)).1
def cZ (l:List Pt)(lo hi:Int):List (List aW):=if cY l lo hi=0 then sY l lo hi else[]
theorem gJ (l:List aW)(s:aW):(fV l s).length<=l.length+1:=by unfold fV;split<;>simp
theorem segS_len (st:LS)(p q:Pt)(lo hi:Int):(nM st p q lo hi).1.length=st.1.length/\(nM st p q lo hi).2.length<=st.2.length+2:=by
 unfold nM
 split
 ·refine⟨rfl,?_⟩
  have:=gJ (fV st.2 (iZ p q lo hi).1) (iZ p q lo hi).2.1;have:=gJ st.2 (iZ p q lo hi).1;dsimp only;omega
 ·exact⟨rfl,by omega⟩
theorem xG (st:LS):(iL st).1.length<=st.1.length+1/\(iL st).2.length=0:=by
 unfold iL;refine⟨?_,rfl⟩;dsimp only
 split<;>simp
theorem mE (l:List Pt)(lo hi:Int):∀ k,(cX l lo hi k).1.length<=k/\(cX l lo hi k).2.length<=2*k
 |0=>⟨Nat.le_refl _,Nat.le_refl _⟩
 |k+1=>by
  obtain⟨h1,h2⟩:=mE l lo hi k;rw[gN];unfold mK
  split
  ·omega
  ·rename_i p _
   split
   ·split
    ·have:=gJ (cX l lo hi k).2 (bI p)
     exact⟨by dsimp only;omega,by dsimp only;omega⟩
    ·omega
   ·split
    ·omega
    ·rename_i q _
     have s1:=segS_len (cX l lo hi k) q p lo hi
     split
     ·omega
     ·have s2:=xG (nM (cX l lo hi k) q p lo hi)
      omega
set_option maxHeartbeats 4000000 in
theorem clipL_any (l:List Pt)(lo hi:Int)(v:Value)(S:Nat->Prop)(w:World)(hb:Rd w S 2 v l.length (Pts l))(hl:l.length<=1000){R:Ending->World->Prop}
  (hR:∀ (r:Value) (rows:List dB) (w':World),w'.ownsRow w.heap.size 102 1 r rows.length (rows.map dB.v)->rows.map dB.l=cZ l lo hi->(∀ x∈rows,Rd w' (·<w'.heap.size) 6 x.v x.l.length (eH x.l))->aB w w'->R (.returned (.tuple #[r,.int .i64 (cY l lo hi)])) w'):
  Calls Tryz.prog 55 #[v,.int .i64 lo,.int .i64 hi] w R:=by
 have HR1:∀ e,cY l lo hi=e->∀ sp,cZ l lo hi=sp->∀ (r:Value) (rows:List dB) (w':World),w'.ownsRow w.heap.size 102 1 r rows.length (rows.map dB.v)->rows.map dB.l=sp->(∀ x∈rows,Rd w' (·<w'.heap.size) 6 x.v x.l.length (eH x.l))->aB w w'->R (.returned (.tuple #[r,.int .i64 e])) w':=by rintro e rfl sp rfl;exact hR
 have HR:=Lh HR1;clear hR HR1;have hb:=hb.lt (by decide);have CF:=Lh fun (R:Ending->World->Prop) hR=>rN l v _ w hb (R:=R) hR
 obtain⟨_,A,c,rfl,k1,k2,k3,k4⟩:=hb;unfold maxLen at k2
 obtain⟨q,hq⟩:∃ q,decide (hi<lo)=q:=⟨_,rfl⟩
 cases q with
 |true=>
  have LE:Hid (cY l lo hi=1):=by show _=_;unfold cY;rw[if_pos (of_decide_eq_true hq)]
  have RE:Hid (cZ l lo hi=[]):=by show _=_;unfold cZ;rw[LE.out];rfl
  go_enter Tryz.func55,Tryz.ntmps55
  go_wp2;exact HR.out _ LE.out _ RE.out _ [] _ (World.ownsRow_nil _ _ _ _) rfl (fun x hx=>by simp at hx) (aB.refl _)
 |false=>
  have LE:Hid (cY l lo hi=if (!inw lo||!inw hi||l.any Pt.far)=true then 8 else 0):=by show _=_;unfold cY;rw[if_neg (of_decide_eq_false hq)]
  have F1:=Lh fun W (R:Ending->World->Prop) hR=>kP lo W (R:=R) hR
  have F2:=Lh fun W (R:Ending->World->Prop) hR=>kP hi W (R:=R) hR
  obtain⟨b1,h1⟩:∃ b,inw lo=b:=⟨_,rfl⟩
  obtain⟨b2,h2⟩:∃ b,inw hi=b:=⟨_,rfl⟩
  obtain⟨b3,h3⟩:∃ b,l.any Pt.far=b:=⟨_,rfl⟩
  rw[h1,h2,h3] at LE;rw[h1] at F1;rw[h2] at F2;rw[h3] at CF;clear h1 h2 h3
  cases b1 with
  |false=>
   have LE8:Hid (cY l lo hi=8):=by show _=_;rw[LE.out];rfl
   have RE:Hid (cZ l lo hi=[]):=by show _=_;unfold cZ;rw[LE8.out];rfl
   go_enter Tryz.func55,Tryz.ntmps55
   go_wp2_with fail
   go_at_call 75;refine F1.out _ _ ?_;go_wp2;exact HR.out _ LE8.out _ RE.out _ [] _ (World.ownsRow_nil _ _ _ _) rfl (fun x hx=>by simp at hx) (aB.refl _)
  |true=>
   cases b2 with
   |false=>
    have LE8:Hid (cY l lo hi=8):=by show _=_;rw[LE.out];rfl
    have RE:Hid (cZ l lo hi=[]):=by show _=_;unfold cZ;rw[LE8.out];rfl
    go_enter Tryz.func55,Tryz.ntmps55
    go_wp2_with fail
    go_at_call 75;refine F1.out _ _ ?_;go_wp2_with fail
    go_at_call 75;refine F2.out _ _ ?_;go_wp2;exact HR.out _ LE8.out _ RE.out _ [] _ (World.ownsRow_nil _ _ _ _) rfl (fun x hx=>by simp at hx) (aB.refl _)
   |true=>
    cases b3 with
    |true=>
     have LE8:Hid (cY l lo hi=8):=by show _=_;rw[LE.out];rfl
     have RE:Hid (cZ l lo hi=[]):=by show _=_;unfold cZ;rw[LE8.out];rfl
     go_enter Tryz.func55,Tryz.ntmps55
     go_wp2_with fail
     go_at_call 75;refine F1.out _ _ ?_;go_wp2_with fail
     go_at_call 75;refine F2.out _ _ ?_;go_wp2_with fail
     go_at_call 76;refine CF.out _ ?_;intro w9 hg9;have G9:=Lh hg9;clear hg9;go_wp2;exact HR.out _ LE8.out _ RE.out _ [] _ (World.ownsRow_nil _ _ _ _) rfl (fun x hx=>by simp at hx) G9.out
    |false=>
     have LE0:Hid (cY l lo hi=0):=by show _=_;rw[LE.out];rfl
     have RE:Hid (cZ l lo hi=sY l lo hi):=by show _=_;unfold cZ;rw[LE0.out];rfl
     go_enter Tryz.func55,Tryz.ntmps55
     go_wp2_with fail
     clear hq;go_at_call 75;refine F1.out _ _ ?_;go_wp2_with fail
     go_at_call 75;refine F2.out _ _ ?_;go_wp2_with fail
     go_at_call 76;refine CF.out _ ?_;intro w1 hg1;have G1:=Lh hg1;clear hg1 F1 F2 CF LE;have PB:=(aN.laid #[.slice none 0 0] 98 (aB.refl w1)).tr ((aB.refl _).al (.cells #[.slice none 0 0] 102));have QB:=aN.laid #[.slice none 0 0] 102 ((aB.refl w1).al (.cells #[.slice none 0 0] 98));rw[World.size_alloc] at QB;have L0:=Lh (LSt.nil PB QB (by omega));clear PB QB;go_upto_region 8 with fail
     generalize (w1.alloc (.cells #[.slice none 0 0] 98)).alloc (.cells #[.slice none 0 0] 102)=w2 at*
     obtain⟨pb,hpb⟩:∃ pb,w1.heap.size=pb:=⟨_,rfl⟩
     obtain⟨qb,hqb⟩:∃ qb,w1.heap.size+1=qb:=⟨_,rfl⟩
     rw[hqb] at L0 ⊢;rw[hpb] at L0 ⊢;clear hpb hqb;go_wp2
     go_loopw [34] (fun i wr=>∃ (k:Nat) (pv qv:Value) (rows:List dB) (part:List aW),k<=l.length/\i=.int .i64 k/\Hid (cX l lo hi k=(rows.map dB.l,part))/\Hid (LSt w1 pb qb pv qv rows part wr)) (fun i _=>l.length-(intOf i).toNat)
     case atStart=>exact⟨0,_,_,[],[],Nat.zero_le _,rfl,rfl,L0.out⟩
     case round=>
      obtain⟨k,pv,qv,rows,part,hk,rfl,hct,hst⟩:=hrel;have hln:=mE l lo hi k;rw[hct.out,List.length_map] at hln;dsimp only at hln;have LN:=Lh hln;clear hln
      by_cases hlt:k<l.length
      ·have CS:=gN l lo hi k
       rw[hct.out] at CS;unfold mK at CS;rw[List.getElem?_eq_getElem hlt] at CS;obtain⟨b,o,rfl,hS,hc⟩:=k4 (by omega);have e0:=fun W (h:aB w W)=>aL Pt.cells_len h hS hc hlt
       have GW:=Lh (G1.out.tr hst.out.bp.grow);have IL:=Lh fun W (R:Ending->World->Prop) hR=>wT (l[k]'hlt) lo hi W (R:=R) hR
       have SL:=Lh fun W (R:Ending->World->Prop) hR=>sB (l[k]'hlt) W (R:=R) hR
       obtain⟨bi,hbi⟩:∃ b,(l[k]'hlt).inside lo hi=b:=⟨_,rfl⟩
       rw[hbi] at IL;simp only[hbi] at CS;clear hbi;have x0:=e0 wr GW.out 0 _ rfl;have x1:=e0 wr GW.out 1 _ rfl;simp only[Nat.add_zero] at x0;have BP:=Lh (aN.laid (l[k]'hlt).cells.toArray 51 hst.out.bp.grow);have GA:Hid (aB wr (wr.alloc (.cells (l[k]'hlt).cells.toArray 51))):=(aB.refl wr).al _;have LT:=Lh (hst.out.tr GA.out)
       have NB:Hid ((∀ kk,qv.ownBlock=some kk->kk<wr.heap.size)/\qb<wr.heap.size):=⟨fun kk hk=>(hst.out.oq.lt kk hk).2,hst.out.bq.lt⟩
       have SZ:Hid (wr.heap.size<(wr.alloc (.cells (l[k]'hlt).cells.toArray 51)).heap.size):=BP.out.lt;clear hst hct
       by_cases h0:k=0
       ·have tz:((k:Int)==0)=true:=by rw[beq_iff_eq];omega
        rw[if_pos h0] at CS;have HC:=Lh CS;clear CS h0 hc;generalize l[k]'hlt=p at*;obtain⟨px,py⟩:=p;unfold Pt.cells at BP GA LT IL SL SZ;dsimp only at BP GA LT IL SL x0 x1 HC SZ;have p0:=BP.out.cell 0;have p1:=BP.out.cell 1;clear e0 k4;go_upto_region 12 with fail
        clear x0 x1;generalize wr.alloc (.cells #[.int .i64 px,.int .i64 py] 51)=w3 at*;generalize wr.heap.size=nb at*;go_wp2_with fail
        go_at_call 54;refine IL.out _ _ ?_;intro w4 hg4;have LT:=Lh (LT.out.tr hg4);have BP:=Lh (BP.out.tr hg4);clear hg4 p0 p1 tz
        cases bi with
        |false=>
         go_wp2;go_roundw
         case rel=>exact⟨k+1,pv,qv,rows,part,by omega,by go_num,Lh (by simpa using HC.out),LT.out⟩
         case measure=>simp[intOf];omega
        |true=>
         go_wp2_with fail
         refine aE (fun W=>aN w1 nb #[.int .i64 px,.int .i64 py] 51 W/\LSt w1 pb qb pv qv rows part W) (⟨BP.out.tr (aB.refl _).dr,LT.out.tr (aB.refl _).dr⟩) 3 [0,1,2] (by kernel_rfl) (by kernel_rfl) (by intro c a d v w h;cases d<;>exact h) ?_
         iterate 2 (apply aD;exact rfl;exact rfl;(intro W hW;have c0:=hW.2.bq.cell 0;have p0:=hW.1.cell 0;have p1:=hW.1.cell 1;(try clear hW);go_simp;with_reducible rfl);try simp only[Act.put,sA,sZ,sS])
         have LT:=Lh (LT.out.tr (aB.refl _).dr);have BP:=Lh (BP.out.tr (aB.refl _).dr);apply aG;exact rfl;exact rfl;exact rfl;intro K hK;go_simp;go_at_call 79;refine SL.out _ _ ?_;intro w5 hg5;have LT:=Lh (LT.out.tr hg5);have BP:=Lh (BP.out.tr hg5);refine hK.out _ _ ⟨BP.out,LT.out⟩ ?_;clear hK hg5
         try simp only[Act.put,sA,sZ,sS]
         refine aK ?_;simp only[List.drop_succ_cons,List.drop_zero];go_wp2_with fail
         go_at_call 78;refine tU part (bI ⟨px,py⟩) qv w1 _ LT.out.bp.grow LT.out.oq (by have:=LN.out;omega) ?_;intro v6 w6 hO6 hgr6 hf6;have bq6:=LT.out.bq.by_ hgr6 (cA LT.out.oq) (fun e=>LT.out.qq.2 e.symm);obtain⟨A6,c6,rfl⟩:=aH hO6;have LF:=Lh (LT.out.put hgr6 hO6 hf6);have y0:=bq6.cell 0;have f0:=bq6.free 0;clear hO6 hgr6 hf6 bq6;go_wp2;go_roundw
         case rel=>exact⟨k+1,pv,_,rows,_,by omega,by go_num,Lh (by simpa using HC.out),LF.out⟩
         case measure=>simp[intOf];omega
       ·have tz:((k:Int)==0)=false:=by rw[beq_eq_false_iff_ne];omega
        rw[if_neg h0] at CS
        obtain⟨km,hkm⟩:∃ km,k=km+1:=⟨k-1,by omega⟩
        have hkm1:k-1=km:=by omega
        have hlq:km<l.length:=by omega
        have e1:=fun W (h:aB w W)=>aL Pt.cells_len h hS hc hlq
        rw[hkm1,List.getElem?_eq_getElem hlq] at CS;have SG:=Lh fun W (R:Ending->World->Prop) hR=>vQ (l[km]'hlq) (l[k]'hlt) lo hi W (R:=R) hR
        have KW:Hid (IntKind.i64.wrap ((k:Int)-1)=(km:Int)/\km<l.length):=⟨by rw[IntWalk.i64_in _ (by omega)];omega,hlq⟩
        unfold nM at CS
        obtain⟨sa,sb,sok,hsg⟩:∃ a b ok,iZ (l[km]'hlq) (l[k]'hlt) lo hi=(a,b,ok):=⟨_,_,_,rfl⟩
        rw[hsg] at SG;simp only[hsg] at CS;have HC:=Lh CS;clear CS h0 hc hsg;generalize l[k]'hlt=p at*;generalize l[km]'hlq=q at*;obtain⟨px,py⟩:=p;obtain⟨qx,qy⟩:=q;unfold Pt.cells at BP GA LT IL SL SZ SG;dsimp only at BP GA LT IL SL x0 x1 HC SZ SG
        have E1:Hid (∀ W,aB w W->W.cell? ⟨b,o+km*2,none⟩=some (.int .i64 qx)/\W.cell? ⟨b,o+km*2+1,none⟩=some (.int .i64 qy)):=fun W h=>⟨e1 W h 0 _ rfl,e1 W h 1 _ rfl⟩
        have p0:=BP.out.cell 0;have p1:=BP.out.cell 1;clear e0 e1 k4 hlq hkm hkm1;go_upto_region 12 with fail
        clear x0 x1;generalize wr.alloc (.cells #[.int .i64 px,.int .i64 py] 51)=w3 at*;generalize wr.heap.size=nb at*;go_upto_region 15 with fail
        clear tz p0 p1;obtain⟨⟨aa,ab,ac⟩,⟨ad,ae,af⟩⟩:=sa;obtain⟨⟨ba,bb,bc⟩,⟨bd,be,bf⟩⟩:=sb;have SZd:Hid (nb<w3.drew.heap.size):=SZ.out;have BPd:=Lh (BP.out.tr (aB.refl _).dr);have LTd:=Lh (LT.out.tr (aB.refl _).dr)
        refine dW ⟨13,some 14,132,#[.int .i64 0,.int .u64 0,.int .u64 0,.int .i64 0,.int .u64 0,.int .u64 0]⟩ ⟨14,some 15,132,#[.int .i64 0,.int .u64 0,.int .u64 0,.int .i64 0,.int .u64 0,.int .u64 0]⟩ 17 [0,1,2,3,4,5,6,7,8,9,10,11,12] [15,16] (by kernel_rfl) (by kernel_rfl) (by decide) ⟨_,rfl,rfl,rfl,fun a W K h=>by go_simp;exact h⟩ ⟨_,rfl,rfl,rfl,fun a W K h=>by go_simp;exact h⟩ (by intro c a d v w h;cases d<;>exact h) u14 u15 rfl rfl ?_;clear BP LT SZ GA;generalize w3.drew=w3d at*;have BP:=Lh BPd.out
        have LT:=Lh LTd.out;have SZ:=Lh SZd.out;clear LTd SZd;apply bX;exact rfl;(simp);(simp);(intro x1 x2;exact rfl)
        ·intro x1 x2 W' hW
         have z0:=(BPd.out.tr hW).cell 0;have z1:=(BPd.out.tr hW).cell 1;obtain⟨y0,y1⟩:=E1.out W' (G1.out.tr ((BPd.out.tr hW).grow));obtain⟨q1,q2⟩:=KW.out;clear hW;simp only[FA.put2,Act.put,sA,sZ,sS]
         go_simp
         with_reducible rfl
        simp only[Act.put,sA,sZ,sS];apply bX;exact rfl;(simp);(simp);(intro x1 x2;exact rfl)
        ·intro x1 x2 W' hW
         have z0:=(BPd.out.tr hW).cell 0;have z1:=(BPd.out.tr hW).cell 1;obtain⟨y0,y1⟩:=E1.out W' (G1.out.tr ((BPd.out.tr hW).grow));obtain⟨q1,q2⟩:=KW.out;clear hW;simp only[FA.put2,Act.put,sA,sZ,sS]
         go_simp
         with_reducible rfl
        simp only[Act.put,sA,sZ,sS];apply bX;exact rfl;(simp);(simp);(intro x1 x2;exact rfl)
        ·intro x1 x2 W' hW
         have z0:=(BPd.out.tr hW).cell 0;have z1:=(BPd.out.tr hW).cell 1;obtain⟨y0,y1⟩:=E1.out W' (G1.out.tr ((BPd.out.tr hW).grow));obtain⟨q1,q2⟩:=KW.out;clear hW;simp only[FA.put2,Act.put,sA,sZ,sS]
         go_simp
         with_reducible rfl
        simp only[Act.put,sA,sZ,sS];apply bX;exact rfl;(simp);(simp);(intro x1 x2;exact rfl)
        ·intro x1 x2 W' hW
         have z0:=(BPd.out.tr hW).cell 0;have z1:=(BPd.out.tr hW).cell 1;obtain⟨y0,y1⟩:=E1.out W' (G1.out.tr ((BPd.out.tr hW).grow));obtain⟨q1,q2⟩:=KW.out;clear hW;simp only[FA.put2,Act.put,sA,sZ,sS]
         go_simp
         with_reducible rfl
        simp only[Act.put,sA,sZ,sS];apply bX;exact rfl;(simp);(simp);(intro x1 x2;exact rfl)
        ·intro x1 x2 W' hW
         have z0:=(BPd.out.tr hW).cell 0;have z1:=(BPd.out.tr hW).cell 1;obtain⟨y0,y1⟩:=E1.out W' (G1.out.tr ((BPd.out.tr hW).grow));obtain⟨q1,q2⟩:=KW.out;clear hW;simp only[FA.put2,Act.put,sA,sZ,sS]
         go_simp
         with_reducible rfl
        simp only[Act.put,sA,sZ,sS];apply bX;exact rfl;(simp);(simp);(intro x1 x2;exact rfl)
        ·intro x1 x2 W' hW
         have z0:=(BPd.out.tr hW).cell 0;have z1:=(BPd.out.tr hW).cell 1;obtain⟨y0,y1⟩:=E1.out W' (G1.out.tr ((BPd.out.tr hW).grow));obtain⟨q1,q2⟩:=KW.out;clear hW;simp only[FA.put2,Act.put,sA,sZ,sS]
         go_simp
         with_reducible rfl
        simp only[Act.put,sA,sZ,sS];apply bX;exact rfl;(simp);(simp);(intro x1 x2;exact rfl)
        ·intro x1 x2 W' hW
         have z0:=(BPd.out.tr hW).cell 0;have z1:=(BPd.out.tr hW).cell 1;obtain⟨y0,y1⟩:=E1.out W' (G1.out.tr ((BPd.out.tr hW).grow));obtain⟨q1,q2⟩:=KW.out;clear hW;simp only[FA.put2,Act.put,sA,sZ,sS]
         go_simp
         with_reducible rfl
        simp only[Act.put,sA,sZ,sS];apply bX;exact rfl;(simp);(simp);(intro x1 x2;exact rfl)
        ·intro x1 x2 W' hW
         have z0:=(BPd.out.tr hW).cell 0;have z1:=(BPd.out.tr hW).cell 1;obtain⟨y0,y1⟩:=E1.out W' (G1.out.tr ((BPd.out.tr hW).grow));obtain⟨q1,q2⟩:=KW.out;clear hW;simp only[FA.put2,Act.put,sA,sZ,sS]
         go_simp
         with_reducible rfl
        simp only[Act.put,sA,sZ,sS];apply dS;exact rfl;exact rfl;(simp);(simp);(intro x1 x2;exact rfl);intro x1 x2 W5 hW hJ K hK;clear hJ;simp only[FA.put2,Act.put,sA,sZ,sS]
        go_simp
        go_at_call 80;refine SG.out _ _ ?_;intro ra rb rok w5 hres hg5;rw[Prod.mk.injEq,Prod.mk.injEq] at hres;obtain⟨e0,e1,e2⟩:=hres;subst e0 e1 e2;unfold aW.cells;dsimp only;refine hK.out _ _ (fun _=>True) hg5 (fun _ _ _ _=>trivial) trivial ?_;clear hK hW hg5;simp only[Act.put,sA,sZ,sS];apply bX;exact rfl;(simp);(simp);(intro x1 x2;exact rfl)
        ·intro x1 x2 W' hW
         have z0:=(BPd.out.tr hW).cell 0;have z1:=(BPd.out.tr hW).cell 1;obtain⟨y0,y1⟩:=E1.out W' (G1.out.tr ((BPd.out.tr hW).grow));obtain⟨q1,q2⟩:=KW.out;clear hW;simp only[FA.put2,Act.put,sA,sZ,sS]
         go_simp
         with_reducible rfl
        simp only[Act.put,sA,sZ,sS];apply bX;exact rfl;(simp);(simp);(intro x1 x2;exact rfl)
        ·intro x1 x2 W' hW
         have z0:=(BPd.out.tr hW).cell 0;have z1:=(BPd.out.tr hW).cell 1;obtain⟨y0,y1⟩:=E1.out W' (G1.out.tr ((BPd.out.tr hW).grow));obtain⟨q1,q2⟩:=KW.out;clear hW;simp only[FA.put2,Act.put,sA,sZ,sS]
         go_simp
         with_reducible rfl
        simp only[Act.put,sA,sZ,sS];apply bX;exact rfl;(simp);(simp);(intro x1 x2;exact rfl)
        ·intro x1 x2 W' hW
         have z0:=(BPd.out.tr hW).cell 0;have z1:=(BPd.out.tr hW).cell 1;obtain⟨y0,y1⟩:=E1.out W' (G1.out.tr ((BPd.out.tr hW).grow));obtain⟨q1,q2⟩:=KW.out;clear hW;simp only[FA.put2,Act.put,sA,sZ,sS]
         go_simp
         with_reducible rfl
        simp only[Act.put,sA,sZ,sS];apply bX;exact rfl;(simp);(simp);(intro x1 x2;exact rfl)
        ·intro x1 x2 W' hW
         have z0:=(BPd.out.tr hW).cell 0;have z1:=(BPd.out.tr hW).cell 1;obtain⟨y0,y1⟩:=E1.out W' (G1.out.tr ((BPd.out.tr hW).grow));obtain⟨q1,q2⟩:=KW.out;clear hW;simp only[FA.put2,Act.put,sA,sZ,sS]
         go_simp
         with_reducible rfl
        simp only[Act.put,sA,sZ,sS];refine mY ?_;intro b1 b2 V hV hJ hne hb1 hb2
        have BA:Hid (aN w3d b1 #[.int .i64 0,.int .u64 0,.int .u64 0,.int .i64 0,.int .u64 0,.int .u64 0] 132 V):=⟨hV,hb1.1,hb1.2⟩
        have BB:Hid (aN w3d b2 #[.int .i64 0,.int .u64 0,.int .u64 0,.int .i64 0,.int .u64 0,.int .u64 0] 132 V):=⟨hV,hb2.1,hb2.2⟩
        have N12:b1≠b2:=hne;have N21:b2≠b1:=fun e=>hne e.symm
        refine⟨aB w3d,fun _ h=>h,hV,?_⟩;clear hV hne hb1 hb2 BPd hJ;unfold dG FA.put2;simp only[Act.put,sA,sZ,sS,List.drop_succ_cons,List.drop_zero];have uz0:=BA.out.cell 0;have ug0:=BA.out.free 0;have uB1:=Lh (BA.out.set 0 (.int .i64 aa));have uz1:=uB1.out.cell 1;have ug1:=uB1.out.free 1;have uB2:=Lh (uB1.out.set 1 (.int .u64 (ab:Nat)));have uz2:=uB2.out.cell 2;have ug2:=uB2.out.free 2;have uB3:=Lh (uB2.out.set 2 (.int .u64 (ac:Nat)));have uz3:=uB3.out.cell 3
        have ug3:=uB3.out.free 3;have uB4:=Lh (uB3.out.set 3 (.int .i64 ad));have uz4:=uB4.out.cell 4;have ug4:=uB4.out.free 4;have uB5:=Lh (uB4.out.set 4 (.int .u64 (ae:Nat)));have uz5:=uB5.out.cell 5;have ug5:=uB5.out.free 5;have uB6:=Lh (uB5.out.set 5 (.int .u64 (af:Nat)))
        have BBc:=Lh (((((((BB.out.other (j:=0) (v:=.int .i64 aa) N21 BA.out.2.1).other (j:=1) (v:=.int .u64 (ab:Nat)) N21 BA.out.2.1).other (j:=2) (v:=.int .u64 (ac:Nat)) N21 BA.out.2.1).other (j:=3) (v:=.int .i64 ad) N21 BA.out.2.1).other (j:=4) (v:=.int .u64 (ae:Nat)) N21 BA.out.2.1).other (j:=5) (v:=.int .u64 (af:Nat)) N21 BA.out.2.1));have vz0:=BBc.out.cell 0;have vg0:=BBc.out.free 0;have vB1:=Lh (BBc.out.set 0 (.int .i64 ba));have vz1:=vB1.out.cell 1;have vg1:=vB1.out.free 1
        have vB2:=Lh (vB1.out.set 1 (.int .u64 (bb:Nat)));have vz2:=vB2.out.cell 2;have vg2:=vB2.out.free 2;have vB3:=Lh (vB2.out.set 2 (.int .u64 (bc:Nat)));have vz3:=vB3.out.cell 3;have vg3:=vB3.out.free 3;have vB4:=Lh (vB3.out.set 3 (.int .i64 bd));have vz4:=vB4.out.cell 4;have vg4:=vB4.out.free 4;have vB5:=Lh (vB4.out.set 4 (.int .u64 (be:Nat)));have vz5:=vB5.out.cell 5;have vg5:=vB5.out.free 5;have vB6:=Lh (vB5.out.set 5 (.int .u64 (bf:Nat)))
        have BAc:=Lh (((((((uB6.out.other (j:=0) (v:=.int .i64 ba) N12 BB.out.2.1).other (j:=1) (v:=.int .u64 (bb:Nat)) N12 BB.out.2.1).other (j:=2) (v:=.int .u64 (bc:Nat)) N12 BB.out.2.1).other (j:=3) (v:=.int .i64 bd) N12 BB.out.2.1).other (j:=4) (v:=.int .u64 (be:Nat)) N12 BB.out.2.1).other (j:=5) (v:=.int .u64 (bf:Nat)) N12 BB.out.2.1));apply aG;exact rfl;exact rfl;exact rfl;intro K hK;go_simp;refine hK.out _ _ uB6.out.grow ?_;clear hK
        try simp only[Act.put,sA,sZ,sS]
        apply aG;exact rfl;exact rfl;exact rfl;intro K hK;go_simp;refine hK.out _ _ BAc.out.grow ?_;clear hK
        try simp only[Act.put,sA,sZ,sS]
        refine aK ?_;go_upto_region 16 with fail
        clear uz0 ug0 uz1 ug1 uz2 ug2 uz3 ug3 uz4 ug4 uz5 ug5 vz0 vg0 vz1 vg1 vz2 vg2 vz3 vg3 vz4 vg4 vz5 vg5
        generalize ((((((((((((V.setCell ⟨b1,0,none⟩ (.int .i64 aa)).setCell ⟨b1,1,none⟩ (.int .u64 (ab:Nat))).setCell ⟨b1,2,none⟩ (.int .u64 (ac:Nat))).setCell ⟨b1,3,none⟩ (.int .i64 ad)).setCell ⟨b1,4,none⟩ (.int .u64 (ae:Nat))).setCell ⟨b1,5,none⟩ (.int .u64 (af:Nat))).setCell ⟨b2,0,none⟩ (.int .i64 ba)).setCell ⟨b2,1,none⟩ (.int .u64 (bb:Nat))).setCell ⟨b2,2,none⟩ (.int .u64 (bc:Nat))).setCell ⟨b2,3,none⟩ (.int .i64 bd)).setCell ⟨b2,4,none⟩ (.int .u64 (be:Nat))).setCell ⟨b2,5,none⟩ (.int .u64 (bf:Nat)))=w5 at*;have sE:=BAc.out
        have tE:=vB6.out;simp only[sA,sZ,sS] at sE tE
        have NV:Hid (w3d.heap.size<=b1/\w3d.heap.size<=b2):=⟨sE.2.1,tE.2.1⟩
        have BA:=Lh (sE.base LT.out.bp.grow);have BB:=Lh (tE.base LT.out.bp.grow);have LT:=Lh (LT.out.tr sE.grow);have BP:=Lh (BP.out.tr sE.grow);clear sE tE BAc BBc uB1 vB1 uB2 vB2 uB3 vB3 uB4 vB4 uB5 vB5 uB6 vB6
        cases sok with
        |false=>
         have PL:Hid (part.length<=2*k):=LN.out.2;go_upto_region 18 with fail
         have p0:=BP.out.cell 0;have p1:=BP.out.cell 1;go_wp2_with fail
         go_at_call 54;refine IL.out _ _ ?_;intro w9 hg9;have LT:=Lh (LT.out.tr hg9);clear hg9 p0 p1
         cases bi with
         |true=>
          go_wp2;go_roundw
          case rel=>exact⟨k+1,pv,_,rows,_,by omega,by go_num,Lh (by simpa using HC.out),LT.out⟩
          case measure=>simp[intOf];omega
         |false=>
          have HC2:=HC.out;simp only[Bool.false_eq_true,if_false,iL] at HC2;have HC:=Lh HC2;clear HC2;go_wp2_with fail
          go_at_call 77;refine uI w1 pb qb pv _ rows _ _ LT.out (by have:=LN.out;have:=PL.out;omega) (by have:=LN.out;omega) ?_;intro v9 pv9 qv9 rows9 w10 hL9 hn9 hr9;have LT:=Lh hL9;have HR9:=Lh hr9;clear hL9 hr9 hn9;go_wp2;go_roundw
          case rel=>exact⟨k+1,pv9,qv9,rows9,[],by omega,by go_num,Lh (by rw[HC.out,HR9.out]),LT.out⟩
          case measure=>simp[intOf];omega
        |true=>
         have NBQ:Hid ((∀ kk,qv.ownBlock=some kk->kk<w3d.heap.size)/\qb<w3d.heap.size/\nb<w3d.heap.size):=⟨fun kk hk=>Nat.lt_trans (NB.out.1 kk hk) SZ.out,Nat.lt_trans NB.out.2 SZ.out,SZ.out⟩
         go_wp2_with fail
         refine aE (fun W=>aN w1 qb #[qv] 102 W/\aN w1 b1 #[.int .i64 aa,.int .u64 (ab:Nat),.int .u64 (ac:Nat),.int .i64 ad,.int .u64 (ae:Nat),.int .u64 (af:Nat)] 132 W/\aN w1 b2 #[.int .i64 ba,.int .u64 (bb:Nat),.int .u64 (bc:Nat),.int .i64 bd,.int .u64 (be:Nat),.int .u64 (bf:Nat)] 132 W) (⟨LT.out.bq.tr (aB.refl _).dr,BA.out.tr (aB.refl _).dr,BB.out.tr (aB.refl _).dr⟩) 4 [0,1,3,2] (by kernel_rfl) (by kernel_rfl) (by intro c a d v w h;cases d<;>exact h) ?_
         iterate 3 (apply aD;exact rfl;exact rfl;(intro W hW;have c0:=hW.1.cell 0;have a0:=hW.2.1.cell 0;have a1:=hW.2.1.cell 1;have a2:=hW.2.1.cell 2;have a3:=hW.2.1.cell 3;have a4:=hW.2.1.cell 4;have a5:=hW.2.1.cell 5;have d0:=hW.2.2.cell 0;have d1:=hW.2.2.cell 1;have d2:=hW.2.2.cell 2;have d3:=hW.2.2.cell 3;have d4:=hW.2.2.cell 4;have d5:=hW.2.2.cell 5;(try clear hW);go_simp;with_reducible rfl);try simp only[Act.put,sA,sZ,sS])
         have LT:=Lh (LT.out.tr (aB.refl _).dr);have BP:=Lh (BP.out.tr (aB.refl _).dr);have BA:=Lh (BA.out.tr (aB.refl _).dr);have BB:=Lh (BB.out.tr (aB.refl _).dr);apply aG;exact rfl;exact rfl;exact rfl;intro K hK;go_simp;go_at_call 78;refine tU part ⟨⟨aa,ab,ac⟩,⟨ad,ae,af⟩⟩ qv w1 _ LT.out.bp.grow LT.out.oq (by have:=LN.out;omega) ?_;intro v6 w6 hO6 hgr6 hf6;have NBQ1:=NBQ.out;have NV1:=NV.out
         refine hK.out _ _ ⟨LT.out.bq.by_ hgr6 (cA LT.out.oq) (fun e=>LT.out.qq.2 e.symm),BA.out.by_ hgr6 (cA LT.out.oq) (fun e=>by have:=NBQ1.1 _ e.symm;omega),BB.out.by_ hgr6 (cA LT.out.oq) (fun e=>by have:=NBQ1.1 _ e.symm;omega)⟩ ?_;obtain⟨A6',c6',rfl⟩:=aH hO6;have HO6:=Lh hO6;have HG6:=Lh hgr6;have HF6:=Lh hf6;clear hK hO6 hgr6 hf6
         try simp only[Act.put,sA,sZ,sS]
         refine aK ?_;simp only[List.drop_succ_cons,List.drop_zero];go_wp2_with fail
         go_at_call 78;have hp1:=gJ part ⟨⟨aa,ab,ac⟩,⟨ad,ae,af⟩⟩;refine tU _ ⟨⟨ba,bb,bc⟩,⟨bd,be,bf⟩⟩ _ w1 w6 (bK LT.out.bp.grow HG6.out (cA LT.out.oq)) HO6.out (by have:=LN.out;omega) ?_;intro v7 w7 hO7 hgr7 hf7;have hgr:=grown_two HG6.out HF6.out hgr7;have hf:=HF6.out.two HG6.out.size hf7;obtain⟨A7,c7,rfl⟩:=aH hO7;have bq7:=LT.out.bq.by_ hgr (cA LT.out.oq) (fun e=>LT.out.qq.2 e.symm);have bp7:=BP.out.by_ hgr (cA LT.out.oq) (fun e=>by have:=NB.out.1 _ e.symm;omega);have LF:=Lh (LT.out.put hgr hO7 hf)
         have BPF:=Lh (bp7.other (j:=0) (v:=.slice A7 (fV (fV part ⟨⟨aa,ab,ac⟩,⟨ad,ae,af⟩⟩) ⟨⟨ba,bb,bc⟩,⟨bd,be,bf⟩⟩).length c7) (fun e=>by have:=NB.out.2;omega) LT.out.bq.2.1)
         have PL:Hid ((fV (fV part ⟨⟨aa,ab,ac⟩,⟨ad,ae,af⟩⟩) ⟨⟨ba,bb,bc⟩,⟨bd,be,bf⟩⟩).length<=2*k+2):=by
          show _<=_;have:=gJ (fV part ⟨⟨aa,ab,ac⟩,⟨ad,ae,af⟩⟩) ⟨⟨ba,bb,bc⟩,⟨bd,be,bf⟩⟩;have:=LN.out;omega
         have y0:=bq7.cell 0;have f0:=bq7.free 0;clear hp1 hO7 hgr7 hf7 hgr hf bq7 bp7 LT BP HO6 HG6 HF6 NBQ1 NV1;go_upto_region 18 with fail
         clear y0 f0;have LT:=Lh LF.out;have BP:=Lh BPF.out;clear LF BPF;generalize w7.setCell ⟨qb,0,none⟩ (.slice A7 (fV (fV part ⟨⟨aa,ab,ac⟩,⟨ad,ae,af⟩⟩) ⟨⟨ba,bb,bc⟩,⟨bd,be,bf⟩⟩).length c7)=w8 at*;have p0:=BP.out.cell 0;have p1:=BP.out.cell 1;go_wp2_with fail
         go_at_call 54;refine IL.out _ _ ?_;intro w9 hg9;have LT:=Lh (LT.out.tr hg9);clear hg9 p0 p1
         cases bi with
         |true=>
          go_wp2;go_roundw
          case rel=>exact⟨k+1,pv,_,rows,_,by omega,by go_num,Lh (by simpa using HC.out),LT.out⟩
          case measure=>simp[intOf];omega
         |false=>
          have HC2:=HC.out;simp only[Bool.false_eq_true,if_false,if_true,iL] at HC2;have HC:=Lh HC2;clear HC2;go_wp2_with fail
          go_at_call 77;refine uI w1 pb qb pv _ rows _ _ LT.out (by have:=LN.out;have:=PL.out;omega) (by have:=LN.out;omega) ?_;intro v9 pv9 qv9 rows9 w10 hL9 hn9 hr9;have LT:=Lh hL9;have HR9:=Lh hr9;clear hL9 hr9 hn9;go_wp2;go_roundw
          case rel=>exact⟨k+1,pv9,qv9,rows9,[],by omega,by go_num,Lh (by rw[HC.out,HR9.out]),LT.out⟩
          case measure=>simp[intOf];omega
      ·obtain rfl:k=l.length:=by omega
       have CL:Hid (sY l lo hi=(iL (rows.map dB.l,part)).1):=by show _=_;unfold sY;rw[hct.out]
       have LT:=Lh hst.out;clear hst hct k4;go_wp2_with fail
       go_at_call 77;refine uI w1 pb qb pv _ rows _ _ LT.out (by have:=LN.out;omega) (by have:=LN.out;omega) ?_;intro v9 pv9 qv9 rows9 w10 hL9 hn9 hr9;have LT:=Lh hL9;have HR9:=Lh hr9;obtain⟨A9,c9,rfl⟩:=aH hL9.op;have p0:=hL9.bp.cell 0;clear hL9 hr9 hn9;go_wp2;exact HR.out _ LE0.out _ RE.out _ rows9 _ (fP LT.out.op G1.out.size) (by rw[CL.out,HR9.out];rfl) (fun x hx=>(LT.out.each x hx).lt (by decide)) (G1.out.tr LT.out.bp.grow)
end Go.Proofs.YtjalimkajcjapaaGreatDoor
