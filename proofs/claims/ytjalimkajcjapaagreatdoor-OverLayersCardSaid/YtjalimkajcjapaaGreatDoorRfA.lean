import Derived.Test.YtjalimkajcjapaaGreatDoorOvAB
import Derived.Test.YtjalimkajcjapaaGreatDoorRLc
namespace Go.Proofs.YtjalimkajcjapaaGreatDoor
set_option maxRecDepth 100000
open Go.RowKit B
set_option maxHeartbeats 4000000 in
theorem iR (z:Zm)(e:Int)(l:List Pt)(v:Value)(S:Nat->Prop)(w:World)(hb:Rd w S 2 v l.length (Pts l))(hl:l.length<=100000)(hz:aS z e=true)(hin:∀ p∈l,(-1048576<=p.x/\p.x<=1048576)/\-1048576<=p.y/\p.y<=1048576){R:Ending->World->Prop}
  (hR:∀ (r:Value) (w':World),w'.ownsRow w.heap.size 51 2 r l.length (Pts (l.map (scl z e)))->aB w w'->R (.returned r) w'):
  Calls Tryz.prog 35 #[v,.agg z.cells.toArray,.int .i64 e] w R:=by
 have HR:=Lh hR;clear hR;have hb:=hb.lt (by decide);obtain⟨_,A,c,rfl,k1,k2,k3,k4⟩:=hb;unfold maxLen at k2;have HIN:=Lh hin;have HZ:=Lh hz;clear hin hz k3
 obtain⟨wa,hwa⟩:∃ wa,wa=w.alloc (.cells z.cells.toArray 26):=⟨_,rfl⟩
 have GA:Hid (aB w wa):=by subst hwa;exact(aB.refl _).al _
 have BZ:Hid (wa.heap[w.heap.size]? =some (.cells z.cells.toArray 26 (0,0))):=by subst hwa;exact heap_alloc_new w _
 go_enter Tryz.func35,Tryz.ntmps35
 go_wp2;rw[<-hwa];clear hwa
 go_loopw [8,7] (fun i s wr=>∃ (k:Nat),k<=l.length/\i=.int .i64 k/\wr.ownsRow wa.heap.size 51 2 s k (Pts ((l.take k).map (scl z e)))/\Hid (aB wa wr)) (fun i _ _=>l.length-(intOf i).toNat)
 case atStart=>exact⟨0,Nat.zero_le _,rfl,World.ownsRow_nil _ _ _ _,aB.refl _⟩
 case round=>
  obtain⟨k,hk,rfl,hown,hg⟩:=hrel
  by_cases hlt:k<l.length
  ·obtain⟨b,o,rfl,hS,hc⟩:=k4 (by omega)
   have e0:=fun W (h:aB wa W)=>aL Pt.cells_len (GA.out.tr h) hS hc hlt
   have E0:Hid (∀ W,aB wa W->W.cell? ⟨b,o+k*2,none⟩=some (.int .i64 (l[k]'hlt).x)/\W.cell? ⟨b,o+k*2+1,none⟩=some (.int .i64 (l[k]'hlt).y)):=fun W h=>⟨e0 W h 0 _ rfl,e0 W h 1 _ rfl⟩
   have TS:Hid (Pts ((l.take (k+1)).map (scl z e))=Pts ((l.take k).map (scl z e))++(scl z e (l[k]'hlt)).cells):=by
    show _=_;rw[List.take_succ_eq_append_getElem hlt,List.map_append,gF];simp[Pts]
   have HX:=HIN.out (l[k]'hlt) (List.getElem_mem hlt);have SC:=Lh fun W (R:Ending->World->Prop) hR=>tP z e (l[k]'hlt) W HZ.out HX.1 HX.2 (R:=R) hR
   have HO:=Lh hown;clear hc k4 hown HX e0;generalize (l[k]'hlt)=p at*;obtain⟨px,py⟩:=p;generalize scl z e ⟨px,py⟩=q at*;obtain⟨qx,qy⟩:=q;unfold Pt.cells at SC TS;dsimp only at SC TS E0;go_upto_region 5 with fail
   refine hM (aB wa) ((hg.out.tr (aB.refl _).dr)) [0,1,2,3,4,5,6,7,8,9,10] (by kernel_rfl) (by kernel_rfl) rfl (by kernel_rfl) (by intro c a d v w h;cases d<;>exact h) ?_;have HO:=Lh (aJ HO.out (aB.refl wr).dr);have GW:Hid (aB wa wr.drew):=hg.out.tr (aB.refl _).dr;generalize wr.drew=wd at*
   iterate 5 (refine eA (v:=?_) rfl ?_ ?_ ?_;rotate_left;(rfl);(intro W hW;obtain⟨y0,y1⟩:=E0.out W hW;(try clear hW);go_simp;with_reducible rfl);try simp only[Act.put,sA,sZ,sS])
   refine eA (v:=.agg z.cells.toArray) rfl ?_ ?_ ?_;(rfl);(intro W hW;exact aP 26 _ rfl w.heap.size rfl 26 _ _ _ (aC hW BZ.out) rfl Tryz.underlying26 (by kernel_rfl))
   try simp only[Act.put,sA,sZ,sS]
   iterate 1 (refine eA (v:=?_) rfl ?_ ?_ ?_;rotate_left;(rfl);(intro W hW;(try clear hW);go_simp;with_reducible rfl);try simp only[Act.put,sA,sZ,sS])
   refine dQ rfl rfl rfl ?_;intro K hK;go_simp;go_at_call 60;refine SC.out _ _ ?_;intro w2 hg2;have HO:=Lh (aJ HO.out hg2);have GW:=Lh (GW.out.tr hg2);refine hK.out _ _ GW.out ?_;clear hK hg2
   try simp only[Act.put,sA,sZ,sS]
   refine dQ rfl rfl rfl ?_;intro K hK;go_simp;refine hK.out _ _ (GW.out.al _) ?_;clear hK;try simp only[Act.put,sA,sZ,sS]
   refine dQ rfl rfl rfl ?_;intro K hK;refine qE _ _ rfl gM HO.out rfl 1 _ rfl (by decide) rfl (by simp[Value.oneCell']) (by omega) GW.out.size ?_;intro v' w' k1 k2;have HO2:=Lh k1;have GW2:=Lh (bK GW.out k2 (cA HO.out));refine hK.out _ _ GW2.out ?_;clear hK k1 k2
   try simp only[Act.put,sA,sZ,sS]
   iterate 1 (refine eA (v:=?_) rfl ?_ ?_ ?_;rotate_left;(rfl);(intro W hW;(try clear hW);go_simp;with_reducible rfl);try simp only[Act.put,sA,sZ,sS])
   refine uA ?_;go_wp2;go_roundw
   case rel=>exact⟨k+1,by omega,by go_num,aO HO2.out rfl TS.out.symm,GW2.out⟩
   case measure=>simp[intOf];omega
  ·obtain rfl:k=l.length:=by omega
   rw[List.take_length] at hown;have GF:=Lh (GA.out.tr hg.out);have HO:=Lh (fP hown GA.out.size);clear k4 hown;go_wp2;exact HR.out _ _ HO.out GF.out
def nP (v:Rat):Int:=(v+1/2).floor
theorem oW (v:Rat)(n:Int):v<(n:Rat)+1/2↔nP v<=n:=by
 unfold nP;have h:=@Rat.le_floor_iff (n+1) (v+1/2);push_cast at h
 constructor
 ·intro hv
  have:¬ (n+1<=(v+1/2).floor):=by rw[h];grind
  omega
 ·intro hv
  have:¬ ((n:Rat)+1<=v+1/2):=by rw[<-h];omega
  grind
theorem rnd_ge {v:Rat}{lo:Int}(h:(lo:Rat)<=v):lo<=nP v:=by
 rw[<-Int.not_lt];intro hn;have:=(oW v (lo-1)).2 (by omega);have e:((lo-1:Int):Rat)=(lo:Rat)-1:=by push_cast;rfl
 rw[e] at this;grind
theorem rnd_le {v:Rat}{hi:Int}(h:v<=(hi:Rat)):nP v<=hi:=by
 refine(oW v hi).1 ?_;grind
theorem half_q (n:Int):((n*2+1:Int):Rat)/((2:Int):Rat)=(n:Rat)+1/2:=by
 push_cast
 grind
def fN (q:PtQ):Pt:=⟨nP q.x,nP q.y⟩
set_option maxHeartbeats 8000000 in
theorem oK (v:RV)(k:Nat)(lo hi:Int)(S:Nat->Prop)(w:World)(hv:v.rd w S k)(hk:k<=10000)(h0:-1000000<=lo)(h1:hi<=1000000)(hl:(lo:Rat)<=v.q)(hh:v.q<=(hi:Rat)){R:Ending->World->Prop}
  (hR:∀ w',aB w w'->R (.returned (.int .i64 (nP v.q))) w'):
  Calls Tryz.prog 64 #[.agg v.cells.toArray,.int .i64 lo,.int .i64 hi] w R:=by
 have HR:=Lh hR;clear hR;have HM:=Lh (And.intro (rnd_ge hl) (rnd_le hh));have HQ:=Lh (oW v.q);have HV:=Lh hv;have OQ:=Lh fun W (hg:aB w W) (n:Int) (r:RV) (T:Nat->Prop) (hr:r.rd W T 20) (hq:r.q=(n:Rat)+1/2) (R:Ending->World->Prop) hR=>jN v r k 20 _ _ W (HV.out.gr hg) hr hk (by decide) (R:=R) hR
 have CQ:Hid (∀ (n:Int) (r:RV),r.q=(n:Rat)+1/2->(fR v.q r.q<0↔nP v.q<=n)):=fun n r h=>by rw[cmpR_lt,h];exact HQ.out n
 clear hv hl hh HV HQ;generalize nP v.q=m at*;obtain⟨m1,m2⟩:=HM.out
 obtain⟨wa,hwa⟩:∃ wa,wa=w.alloc (.cells v.cells.toArray 111):=⟨_,rfl⟩
 have GA:Hid (aB w wa):=by subst hwa;exact(aB.refl _).al _
 have BV:Hid (wa.heap[w.heap.size]? =some (.cells v.cells.toArray 111 (0,0))):=by subst hwa;exact heap_alloc_new w _
 go_enter Tryz.func64,Tryz.ntmps64
 go_wp2;rw[<-hwa];clear hwa
 go_loopw [1,2] (fun a b wr=>∃ l h:Int,a=.int .i64 l/\b=.int .i64 h/\(lo<=l/\h<=hi)/\(l<=m/\m<=h)/\Hid (aB wa wr)) (fun a b _=>(intOf b-intOf a).toNat)
 case atStart=>exact⟨lo,hi,rfl,rfl,⟨Int.le_refl _,Int.le_refl _⟩,⟨m1,m2⟩,aB.refl _⟩
 case round=>
  obtain⟨l,h,rfl,rfl,hb,hm,hg⟩:=hrel
  by_cases hlt:l<h
  ·have tl:decide (l<h)=true:=decide_eq_true hlt
   obtain⟨n,hn⟩:∃ n,n=l+(h-l)/2:=⟨_,rfl⟩
   have hn1:l<=n/\n<h:=by omega
   have e1:wrap64 (h-l)=h-l:=by unfold wrap64;omega
   have e2:(h-l).tdiv 2=(h-l)/2:=Int.tdiv_eq_ediv_of_nonneg (by omega);have e3:wrap64 ((h-l)/2)=(h-l)/2:=by unfold wrap64;omega
   have e4:wrap64 (l+(h-l)/2)=l+(h-l)/2:=by unfold wrap64;omega
   go_upto_region 3 with fail
   rw[<-hn];clear e1 e2 e3 e4 hn;refine aE (aB wr.drew) ((aB.refl _)) 9 [0,1,2,3,4,5,6,7,8] (by kernel_rfl) (by kernel_rfl) (by intro c a d v w h;cases d<;>exact h) ?_;have GW:Hid (aB wa wr.drew):=hg.out.tr (aB.refl _).dr;generalize wr.drew=w1 at*;have GX:Hid (aB w1 w1):=aB.refl _;apply aD;exact rfl;exact rfl;(intro W hW;exact aP 111 _ rfl w.heap.size rfl 111 _ _ _ (aC (GW.out.tr hW) BV.out) rfl Tryz.underlying111 (by kernel_rfl))
   try simp only[Act.put,sA,sZ,sS]
   iterate 1 (apply aD;exact rfl;exact rfl;(intro W hW;(try clear hW);go_simp;with_reducible rfl);try simp only[Act.put,sA,sZ,sS])
   apply aG;exact rfl;exact rfl;exact rfl;intro K hK;go_simp;go_at_call 96;refine gD n _ (by unfold I64;omega) ?_;intro r2 w2 hg2 hr2;have R2:=Lh hr2;have GX:=Lh hg2;refine hK.out _ _ GX.out ?_;clear hK hg2 hr2
   try simp only[Act.put,sA,sZ,sS]
   apply aG;exact rfl;exact rfl;exact rfl;intro K hK;go_simp;go_at_call 97;refine fM 2 _ (by omega) ?_;intro r3 w3 hg3 hr3;have R2:=Lh (R2.out.gr hg3);have R3:=Lh hr3;have GX:=Lh (GX.out.tr hg3);refine hK.out _ _ GX.out ?_;clear hK hg3 hr3
   try simp only[Act.put,sA,sZ,sS]
   apply aG;exact rfl;exact rfl;exact rfl;intro K hK;go_simp;go_at_call 95;refine gC n ((2:Nat):Int) 4 4 _ _ _ _ _ R2.out R3.out (by omega) (by omega) ?_;intro r4 w4 hg4 hr4;have R4:=Lh hr4;have GX:=Lh (GX.out.tr hg4);refine hK.out _ _ GX.out ?_;clear hK hg4 hr4 R2 R3
   try simp only[Act.put,sA,sZ,sS]
   apply aG;exact rfl;exact rfl;exact rfl;intro K hK;go_simp;go_at_call 97;refine fM 1 _ (by omega) ?_;intro r5 w5 hg5 hr5;have R4:=Lh (R4.out.gr hg5);have R5:=Lh hr5;have GX:=Lh (GX.out.tr hg5);refine hK.out _ _ GX.out ?_;clear hK hg5 hr5
   try simp only[Act.put,sA,sZ,sS]
   apply aG;exact rfl;exact rfl;exact rfl;intro K hK;go_simp;go_at_call 94;refine uT (n*((2:Nat):Int)) ((1:Nat):Int) 8 4 _ _ _ _ _ R4.out R5.out (by omega) (by omega) ?_;intro r6 w6 hg6 hr6;have R6:=Lh hr6;obtain⟨p6,A6,n6,c6,hr6e⟩:=hr6.parts;subst hr6e;have GX:=Lh (GX.out.tr hg6);refine hK.out _ _ GX.out ?_;clear hK hg6 hr6 R4 R5
   try simp only[Act.put,sA,sZ,sS]
   apply aG;exact rfl;exact rfl;exact rfl;intro K hK;go_simp;go_at_call 97;refine fM 2 _ (by omega) ?_;intro r7 w7 hg7 hr7;have R6:=Lh (R6.out.gr hg7);have R7:=Lh hr7;obtain⟨p7,A7,n7,c7,hr7e⟩:=hr7.parts;subst hr7e;have GX:=Lh (GX.out.tr hg7);refine hK.out _ _ GX.out ?_;clear hK hg7 hr7
   try simp only[Act.put,sA,sZ,sS]
   iterate 1 (apply aD;exact rfl;exact rfl;(intro W hW;(try clear hW);go_simp;with_reducible rfl);try simp only[Act.put,sA,sZ,sS])
   refine aK ?_;simp only[List.drop_succ_cons,List.drop_zero];have GW:=Lh (GW.out.tr GX.out)
   have RR:Hid (cK w7 (fun _=>True) (.agg #[.bool p6,.slice A6 n6 c6,.bool p7,.slice A7 n7 c7]) (n*((2:Nat):Int)+((1:Nat):Int)) ((2:Nat):Int) 9 4):=⟨_,_,_,_,_,_,_,_,rfl,R6.out.into fun _ _=>trivial,R7.out.into fun _ _=>trivial⟩
   obtain⟨r,hre,hrq,hrr⟩:=RR.out.rv (by decide) (k':=20) (by omega) (by omega)
   have RQ:Hid (r.q=(n:Rat)+1/2):=by
    show _=_;rw[hrq,<-half_q n];rfl
   have OQ1:=Lh fun (R:Ending->World->Prop) hR=>OQ.out w7 (GA.out.tr GW.out) n r _ hrr RQ.out R hR
   rw[<-hre] at OQ1;have CQ1:=Lh (CQ.out n r RQ.out);clear hrr RR R6 R7 GX hre hrq;generalize fR v.q r.q=cv at*;go_wp2_with fail
   go_at_call 93;refine OQ1.out _ ?_;intro w8 hg8;have GW:=Lh (GW.out.tr hg8);clear hg8 OQ1
   by_cases hc:cv<0
   ·have tc:decide (cv<0)=true:=decide_eq_true hc
    have hmn:=CQ1.out.1 hc;clear hc;go_wp2;go_roundw
    case rel=>exact⟨l,n,rfl,rfl,⟨by omega,by omega⟩,⟨by omega,by omega⟩,GW.out⟩
    case measure=>simp[intOf];omega
   ·have tc:decide (cv<0)=false:=decide_eq_false hc
    have hmn:n<m:=by rw[<-Int.not_le];exact fun h=>hc (CQ1.out.2 h)
    have e5:wrap64 (n+1)=n+1:=by unfold wrap64;omega
    clear hc;go_wp2;go_roundw
    case rel=>exact⟨n+1,h,by go_num,rfl,⟨by omega,by omega⟩,⟨by omega,by omega⟩,GW.out⟩
    case measure=>simp[intOf];omega
  ·have tl:decide (l<h)=false:=decide_eq_false hlt
   have em:l=m:=by omega
   go_wp2;exact HR.out _ (GA.out.tr hg.out)
set_option maxHeartbeats 8000000 in
theorem mQ (ps:List PV)(kk:Nat)(lo hi:Int)(v:Value)(S T:Nat->Prop)(w:World)(hb:Rd w S 8 v ps.length (PVs ps))(hv:∀ p∈ps,p.rd w T kk)(hkk:kk<=10000)(hl:ps.length<=100000)(h0:-1000000<=lo)(h1:hi<=1000000)
  (hin:∀ p∈ps,((lo:Rat)<=p.q.x/\p.q.x<=(hi:Rat))/\(lo:Rat)<=p.q.y/\p.q.y<=(hi:Rat)) {R:Ending->World->Prop}
  (hR:∀ (r:Value) (w':World),w'.ownsRow w.heap.size 51 2 r ps.length (Pts (ps.map fun p=>fN p.q))->aB w w'->R (.returned r) w'):
  Calls Tryz.prog 38 #[v,.int .i64 lo,.int .i64 hi] w R:=by
 have HR:=Lh hR;clear hR;have hb:=hb.lt (by decide);obtain⟨_,A,c,rfl,k1,k2,k3,k4⟩:=hb;unfold maxLen at k2;have HIN:=Lh hin;have HV:=Lh hv;clear hin hv k3;go_enter Tryz.func38,Tryz.ntmps38
 go_wp2
 go_loopw [8,7] (fun i s wr=>∃ (k:Nat),k<=ps.length/\i=.int .i64 k/\wr.ownsRow w.heap.size 51 2 s k (Pts ((ps.take k).map fun p=>fN p.q))/\Hid (aB w wr)) (fun i _ _=>ps.length-(intOf i).toNat)
 case atStart=>exact⟨0,Nat.zero_le _,rfl,World.ownsRow_nil _ _ _ _,aB.refl _⟩
 case round=>
  obtain⟨k,hk,rfl,hown,hg⟩:=hrel
  by_cases hlt:k<ps.length
  ·obtain⟨b,o,rfl,hS,hc⟩:=k4 (by omega)
   have e0:=fun W (h:aB w W)=>aL PV.cells_len h hS hc hlt
   have TS:Hid (Pts ((ps.take (k+1)).map fun p=>fN p.q)=Pts ((ps.take k).map fun p=>fN p.q)++(fN (ps[k]'hlt).q).cells):=by
    show _=_;rw[List.take_succ_eq_append_getElem hlt,List.map_append,gF];simp[Pts]
   have HX:=HIN.out (ps[k]'hlt) (List.getElem_mem hlt);have HVX:=HV.out (ps[k]'hlt) (List.getElem_mem hlt);have NX:=Lh fun W (hg:aB w W) (R:Ending->World->Prop) hR=>oK (ps[k]'hlt).x kk lo hi _ W (HVX.1.gr hg) hkk h0 h1 HX.1.1 HX.1.2 (R:=R) hR
   have NY:=Lh fun W (hg:aB w W) (R:Ending->World->Prop) hR=>oK (ps[k]'hlt).y kk lo hi _ W (HVX.2.gr hg) hkk h0 h1 HX.2.1 HX.2.2 (R:=R) hR
   have HO:=Lh hown;clear hc k4 hown HX HVX;generalize (ps[k]'hlt)=p at*;obtain⟨⟨⟨p1,A1,n1,c1⟩,⟨p2,A2,n2,c2⟩,qx⟩,⟨⟨p3,A3,n3,c3⟩,⟨p4,A4,n4,c4⟩,qy⟩⟩:=p
   have E0:Hid (∀ W,aB w W->(W.cell? ⟨b,o+k*8,none⟩=some (.bool p1)/\W.cell? ⟨b,o+k*8+1,none⟩=some (.slice A1 n1 c1)/\W.cell? ⟨b,o+k*8+2,none⟩=some (.bool p2)/\W.cell? ⟨b,o+k*8+3,none⟩=some (.slice A2 n2 c2))/\W.cell? ⟨b,o+k*8+4,none⟩=some (.bool p3)/\W.cell? ⟨b,o+k*8+5,none⟩=some (.slice A3 n3 c3)/\W.cell? ⟨b,o+k*8+6,none⟩=some (.bool p4)/\W.cell? ⟨b,o+k*8+7,none⟩=some (.slice A4 n4 c4)):=fun W h=>⟨⟨e0 W h 0 _ rfl,e0 W h 1 _ rfl,e0 W h 2 _ rfl,e0 W h 3 _ rfl⟩,e0 W h 4 _ rfl,e0 W h 5 _ rfl,e0 W h 6 _ rfl,e0 W h 7 _ rfl⟩
   unfold RV.cells at NX NY;unfold fN PV.q Pt.cells at TS;dsimp only at NX NY TS;clear e0;generalize nP qx=X at*;generalize nP qy=Y at*;go_upto_region 5 with fail
   refine hM (aB w) ((hg.out.tr (aB.refl _).dr)) [0,1,2,3,4,5,6,7,9,10,11,12,13,14,15,8,16,17,18,19,20] (by kernel_rfl) (by kernel_rfl) rfl (by kernel_rfl) (by intro c a d v w h;cases d<;>exact h) ?_;have HO:=Lh (aJ HO.out (aB.refl wr).dr);have GW:Hid (aB w wr.drew):=hg.out.tr (aB.refl _).dr;generalize wr.drew=wd at*
   iterate 15 (refine eA (v:=?_) rfl ?_ ?_ ?_;rotate_left;(rfl);(intro W hW;obtain⟨⟨y0,y1,y2,y3⟩,y4,y5,y6,y7⟩:=E0.out W hW;(try clear hW);go_simp;with_reducible rfl);try simp only[Act.put,sA,sZ,sS])
   refine dQ rfl rfl rfl ?_;intro K hK;go_simp;go_at_call 64;refine NX.out _ GW.out _ ?_;intro w2 hg2;have HO:=Lh (aJ HO.out hg2);have GW:=Lh (GW.out.tr hg2);refine hK.out _ _ GW.out ?_;clear hK hg2
   try simp only[Act.put,sA,sZ,sS]
   refine dQ rfl rfl rfl ?_;intro K hK;go_simp;go_at_call 64;refine NY.out _ GW.out _ ?_;intro w3 hg3;have HO:=Lh (aJ HO.out hg3);have GW:=Lh (GW.out.tr hg3);refine hK.out _ _ GW.out ?_;clear hK hg3
   try simp only[Act.put,sA,sZ,sS]
   iterate 1 (refine eA (v:=?_) rfl ?_ ?_ ?_;rotate_left;(rfl);(intro W hW;(try clear hW);go_simp;with_reducible rfl);try simp only[Act.put,sA,sZ,sS])
   refine dQ rfl rfl rfl ?_;intro K hK;go_simp;refine hK.out _ _ (GW.out.al _) ?_;clear hK;try simp only[Act.put,sA,sZ,sS]
   refine dQ rfl rfl rfl ?_;intro K hK;refine qE _ _ rfl gM HO.out rfl 1 _ rfl (by decide) rfl (by simp[Value.oneCell']) (by omega) GW.out.size ?_;intro v' w' k1 k2;have HO2:=Lh k1;have GW2:=Lh (bK GW.out k2 (cA HO.out));refine hK.out _ _ GW2.out ?_;clear hK k1 k2
   try simp only[Act.put,sA,sZ,sS]
   iterate 1 (refine eA (v:=?_) rfl ?_ ?_ ?_;rotate_left;(rfl);(intro W hW;(try clear hW);go_simp;with_reducible rfl);try simp only[Act.put,sA,sZ,sS])
   refine uA ?_;go_wp2;go_roundw
   case rel=>exact⟨k+1,by omega,by go_num,aO HO2.out rfl TS.out.symm,GW2.out⟩
   case measure=>simp[intOf];omega
  ·obtain rfl:k=ps.length:=by omega
   rw[List.take_length] at hown;go_wp2;exact HR.out _ _ hown hg.out
end Go.Proofs.YtjalimkajcjapaaGreatDoor
