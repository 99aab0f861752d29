import Derived.Test.YtjalimkajcjapaaGreatDoorLin
namespace Go.Proofs.YtjalimkajcjapaaGreatDoor
set_option maxRecDepth 100000
open Go.RowKit B
def iY (p q lo hi:Int)(up:Bool):Wn:=⟨((if q<p then hi else lo)-p)*(if q<p then -1 else 1),max (q-p) (p-q),if q<p then hi else lo,up,false⟩
def iX (p q lo hi:Int)(up:Bool):Wn:=⟨((if q<p then lo else hi)-p)*(if q<p then -1 else 1),max (q-p) (p-q),if q<p then lo else hi,up,false⟩
def mM (a i0:Wn):Wn:=if a.after i0=true then a else i0
def mL (b i1:Wn):Wn:=if i1.after b=true then b else i1
def gH (i0 i1:Wn)(p q lo hi:Int)(up:Bool):Wn×Wn×Bool:=
 if p=q then(i0,i1,decide (lo<=p)&&decide (p<=hi))
 else(mM (iY p q lo hi up) i0,mL (iX p q lo hi up) i1,!(mM (iY p q lo hi up) i0).after (mL (iX p q lo hi up) i1))
theorem vM {p q lo hi:Int}{up:Bool}(hp:inw p=true)(hq:inw q=true)(hl:inw lo=true)(hh:inw hi=true):(iY p q lo hi up).ok/\(iX p q lo hi up).ok:=by
 simp only[inw,Bool.and_eq_true,decide_eq_true_eq] at hp hq hl hh;unfold iY iX Wn.ok I64;dsimp only
 by_cases h:q<p
 ·simp only[if_pos h];omega
 ·simp only[if_neg h];omega
theorem vO {a i:Wn}(ha:a.ok)(hi:i.ok):(mM a i).ok:=by unfold mM;split<;>assumption
theorem vN {a i:Wn}(ha:a.ok)(hi:i.ok):(mL a i).ok:=by unfold mL;split<;>assumption
set_option maxHeartbeats 1000000 in
theorem vK (i0 i1:Wn)(p q lo hi:Int)(up:Bool)(h0:i0.ok)(h1:i1.ok)(hp:inw p=true)(hq:inw q=true)(hl:inw lo=true)(hh:inw hi=true)(w:World){R:Ending->World->Prop}
  (hR:∀ j0 j1 ok w',gH i0 i1 p q lo hi up=(j0,j1,ok)->aB w w'->R (.returned (.tuple #[.agg (j0.cells++j1.cells).toArray,.bool ok])) w'):
  Calls Tryz.prog 104 #[.agg (i0.cells++i1.cells).toArray,.int .i64 p,.int .i64 q,.int .i64 lo,.int .i64 hi,.bool up] w R:=by
 have HR:=Lh hR;have AB:=vM (up:=up) hp hq hl hh;simp only[inw,Bool.and_eq_true,decide_eq_true_eq] at hp hq hl hh;clear hR
 by_cases hpq:p=q
 ·have SS:Hid (gH i0 i1 p q lo hi up=(i0,i1,decide (lo<=p)&&decide (p<=hi))):=by show _=_;unfold gH;rw[if_pos hpq]
  subst hpq;clear AB h0 h1 hp hq hl hh;obtain⟨in0,id0,ic0,iu0,ie0⟩:=i0;obtain⟨in1,id1,ic1,iu1,ie1⟩:=i1;unfold Wn.cells;simp only[List.cons_append,List.nil_append]
  obtain⟨wa,hwa⟩:∃ wa,wa=(w.alloc (.cells #[.int .i64 in0,.int .i64 id0,.int .i64 ic0,.bool iu0,.bool ie0,.int .i64 in1,.int .i64 id1,.int .i64 ic1,.bool iu1,.bool ie1] 162)).alloc (.cells #[.int .i64 0,.int .i64 0,.int .i64 0,.bool false,.bool false,.int .i64 0,.int .i64 0,.int .i64 0,.bool false,.bool false] 162):=⟨_,rfl⟩
  have BI:Hid (aN w w.heap.size #[.int .i64 in0,.int .i64 id0,.int .i64 ic0,.bool iu0,.bool ie0,.int .i64 in1,.int .i64 id1,.int .i64 ic1,.bool iu1,.bool ie1] 162 wa):=by
   rw[hwa];exact(aN.laid #[.int .i64 in0,.int .i64 id0,.int .i64 ic0,.bool iu0,.bool ie0,.int .i64 in1,.int .i64 id1,.int .i64 ic1,.bool iu1,.bool ie1] 162 (aB.refl w)).tr ((aB.refl _).al _)
  have BR:Hid (aN w (w.heap.size+1) #[.int .i64 0,.int .i64 0,.int .i64 0,.bool false,.bool false,.int .i64 0,.int .i64 0,.int .i64 0,.bool false,.bool false] 162 wa):=by
   have:=aN.laid (w:=w.alloc (.cells #[.int .i64 in0,.int .i64 id0,.int .i64 ic0,.bool iu0,.bool ie0,.int .i64 in1,.int .i64 id1,.int .i64 ic1,.bool iu1,.bool ie1] 162)) #[.int .i64 0,.int .i64 0,.int .i64 0,.bool false,.bool false,.int .i64 0,.int .i64 0,.int .i64 0,.bool false,.bool false] 162 ((aB.refl w).al _);rw[World.size_alloc] at this;rw[hwa];exact this
  have HWA:=Lh hwa;clear hwa;have x0:=BI.out.cell 0;have x1:=BI.out.cell 1;have x2:=BI.out.cell 2;have x3:=BI.out.cell 3;have x4:=BI.out.cell 4;have x5:=BI.out.cell 5;have x6:=BI.out.cell 6;have x7:=BI.out.cell 7;have x8:=BI.out.cell 8;have x9:=BI.out.cell 9;have rz0:=BR.out.cell 0;have rg0:=BR.out.free 0;have rB1:=Lh (BR.out.set 0 (.int .i64 in0));have rz1:=rB1.out.cell 1;have rg1:=rB1.out.free 1;have rB2:=Lh (rB1.out.set 1 (.int .i64 id0));have rz2:=rB2.out.cell 2;have rg2:=rB2.out.free 2
  have rB3:=Lh (rB2.out.set 2 (.int .i64 ic0));have rz3:=rB3.out.cell 3;have rg3:=rB3.out.free 3;have rB4:=Lh (rB3.out.set 3 (.bool iu0));have rz4:=rB4.out.cell 4;have rg4:=rB4.out.free 4;have rB5:=Lh (rB4.out.set 4 (.bool ie0));have rz5:=rB5.out.cell 5;have rg5:=rB5.out.free 5;have rB6:=Lh (rB5.out.set 5 (.int .i64 in1));have rz6:=rB6.out.cell 6;have rg6:=rB6.out.free 6;have rB7:=Lh (rB6.out.set 6 (.int .i64 id1));have rz7:=rB7.out.cell 7;have rg7:=rB7.out.free 7;have rB8:=Lh (rB7.out.set 7 (.int .i64 ic1))
  have rz8:=rB8.out.cell 8;have rg8:=rB8.out.free 8;have rB9:=Lh (rB8.out.set 8 (.bool iu1));have rz9:=rB9.out.cell 9;have rg9:=rB9.out.free 9;have rB10:=Lh (rB9.out.set 9 (.bool ie1))
  cases t1:decide (lo<=p) with
  |false=>
   rw[t1] at SS;go_enter Tryz.func104,Tryz.ntmps104
   go_upto_region 1 with fail
   rw[<-HWA.out];clear HWA;go_wp2;have k0:=rB10.out.cell 0;have k1:=rB10.out.cell 1;have k2:=rB10.out.cell 2;have k3:=rB10.out.cell 3;have k4:=rB10.out.cell 4;have k5:=rB10.out.cell 5;have k6:=rB10.out.cell 6;have k7:=rB10.out.cell 7;have k8:=rB10.out.cell 8;have k9:=rB10.out.cell 9;simp only[sA,sZ,sS] at k0 k1 k2 k3 k4 k5 k6 k7 k8 k9
   exact bodyPost_ret (v:=.tuple #[.agg #[.int .i64 in0,.int .i64 id0,.int .i64 ic0,.bool iu0,.bool ie0,.int .i64 in1,.int .i64 id1,.int .i64 ic1,.bool iu1,.bool ie1],.bool false]) (by simp[results,Tryz.f104,go_sem,k0,k1,k2,k3,k4,k5,k6,k7,k8,k9]) rfl (HR.out ⟨in0,id0,ic0,iu0,ie0⟩ ⟨in1,id1,ic1,iu1,ie1⟩ _ _ SS.out rB10.out.grow)
  |true=>
   rw[t1] at SS;go_enter Tryz.func104,Tryz.ntmps104
   go_upto_region 1 with fail
   rw[<-HWA.out];clear HWA;go_wp2;have k0:=rB10.out.cell 0;have k1:=rB10.out.cell 1;have k2:=rB10.out.cell 2;have k3:=rB10.out.cell 3;have k4:=rB10.out.cell 4;have k5:=rB10.out.cell 5;have k6:=rB10.out.cell 6;have k7:=rB10.out.cell 7;have k8:=rB10.out.cell 8;have k9:=rB10.out.cell 9;simp only[sA,sZ,sS] at k0 k1 k2 k3 k4 k5 k6 k7 k8 k9
   exact bodyPost_ret (v:=.tuple #[.agg #[.int .i64 in0,.int .i64 id0,.int .i64 ic0,.bool iu0,.bool ie0,.int .i64 in1,.int .i64 id1,.int .i64 ic1,.bool iu1,.bool ie1],.bool (decide (p<=hi))]) (by simp[results,Tryz.f104,go_sem,k0,k1,k2,k3,k4,k5,k6,k7,k8,k9]) rfl (HR.out ⟨in0,id0,ic0,iu0,ie0⟩ ⟨in1,id1,ic1,iu1,ie1⟩ _ _ SS.out rB10.out.grow)
 ·have SS:Hid (gH i0 i1 p q lo hi up=(mM (iY p q lo hi up) i0,mL (iX p q lo hi up) i1,!(mM (iY p q lo hi up) i0).after (mL (iX p q lo hi up) i1))):=by show _=_;unfold gH;rw[if_neg hpq]
  have tpq:(p==q)=false:=by rw[beq_eq_false_iff_ne];exact hpq
  obtain⟨d,hd⟩:∃ d,max (q-p) (p-q)=d:=⟨_,rfl⟩
  obtain⟨sg,hsg⟩:∃ sg,(if q<p then(-1:Int) else 1)=sg:=⟨_,rfl⟩
  obtain⟨af,haf⟩:∃ af,(if q<p then hi else lo)=af:=⟨_,rfl⟩
  obtain⟨bf,hbf⟩:∃ bf,(if q<p then lo else hi)=bf:=⟨_,rfl⟩
  obtain⟨an,han⟩:∃ an,(af-p)*sg=an:=⟨_,rfl⟩
  obtain⟨bn,hbn⟩:∃ bn,(bf-p)*sg=bn:=⟨_,rfl⟩
  unfold iY iX at SS AB;rw[hd,hsg,haf,hbf,han,hbn] at SS AB;have w1:IntKind.i64.wrap (q-p)=q-p:=IntWalk.i64_in _ (by omega);have w2:IntKind.i64.wrap (p-q)=p-q:=IntWalk.i64_in _ (by omega);have afb:-4503599627370496<=af/\af<=4503599627370496:=by rw[<-haf];split<;>omega
  have bfb:-4503599627370496<=bf/\bf<=4503599627370496:=by rw[<-hbf];split<;>omega
  obtain⟨ax,hax⟩:∃ ax,af-p=ax:=⟨_,rfl⟩
  obtain⟨bx,hbx⟩:∃ bx,bf-p=bx:=⟨_,rfl⟩
  rw[hax] at han;rw[hbx] at hbn;have w3:IntKind.i64.wrap (af-p)=ax:=by rw[<-hax];exact IntWalk.i64_in _ (by omega)
  have w4:IntKind.i64.wrap (bf-p)=bx:=by rw[<-hbx];exact IntWalk.i64_in _ (by omega)
  have WS:Hid (sg=-1/\IntKind.i64.wrap (ax*-1)=an/\IntKind.i64.wrap (-ax)=an/\IntKind.i64.wrap (bx*-1)=bn/\IntKind.i64.wrap (-bx)=bn∨sg=1/\IntKind.i64.wrap (ax*1)=an/\IntKind.i64.wrap ax=an/\IntKind.i64.wrap (bx*1)=bn/\IntKind.i64.wrap bx=bn):=by
   show _∨_;rw[<-hax] at han ⊢;rw[<-hbx] at hbn ⊢
   by_cases hlt:q<p
   ·left
    rw[if_pos hlt] at hsg;rw[<-hsg] at han hbn;refine⟨hsg.symm,?_,?_,?_,?_⟩<;>(rw[IntWalk.i64_in _ (by omega)];omega)
   ·right
    rw[if_neg hlt] at hsg;rw[<-hsg] at han hbn;refine⟨hsg.symm,?_,?_,?_,?_⟩<;>(rw[IntWalk.i64_in _ (by omega)];omega)
  have C0:=Lh (vO AB.1 h0);have C1:=Lh (vN AB.2 h1);have F0:=Lh fun W (R:Ending->World->Prop) hR=>oB ⟨an,d,af,up,false⟩ i0 AB.1 h0 W (R:=R) hR
  have F1:=Lh fun W (R:Ending->World->Prop) hR=>oB i1 ⟨bn,d,bf,up,false⟩ h1 AB.2 W (R:=R) hR
  have F2:=Lh fun W (R:Ending->World->Prop) hR=>oB _ _ C0.out C1.out W (R:=R) hR
  clear AB h0 h1 hp hq hl hh hpq afb bfb han hbn hax hbx C0 C1;unfold mM mL at SS F2
  obtain⟨t0,ht0⟩:∃ t,Wn.after ⟨an,d,af,up,false⟩ i0=t:=⟨_,rfl⟩
  obtain⟨t1,ht1⟩:∃ t,i1.after ⟨bn,d,bf,up,false⟩=t:=⟨_,rfl⟩
  rw[ht0] at SS F0 F2;rw[ht1] at SS F1 F2;clear ht0 ht1
  obtain⟨t2,ht2⟩:∃ t,(if t0=true then(⟨an,d,af,up,false⟩:Wn) else i0).after (if t1=true then⟨bn,d,bf,up,false⟩ else i1)=t:=⟨_,rfl⟩
  rw[ht2] at SS F2;clear ht2;obtain⟨in0,id0,ic0,iu0,ie0⟩:=i0;obtain⟨in1,id1,ic1,iu1,ie1⟩:=i1;unfold Wn.cells at F0 F1;dsimp only at F0 F1;unfold Wn.cells;simp only[List.cons_append,List.nil_append]
  obtain⟨wa,hwa⟩:∃ wa,wa=(w.alloc (.cells #[.int .i64 in0,.int .i64 id0,.int .i64 ic0,.bool iu0,.bool ie0,.int .i64 in1,.int .i64 id1,.int .i64 ic1,.bool iu1,.bool ie1] 162)).alloc (.cells #[.int .i64 0,.int .i64 0,.int .i64 0,.bool false,.bool false,.int .i64 0,.int .i64 0,.int .i64 0,.bool false,.bool false] 162):=⟨_,rfl⟩
  have BI:Hid (aN w w.heap.size #[.int .i64 in0,.int .i64 id0,.int .i64 ic0,.bool iu0,.bool ie0,.int .i64 in1,.int .i64 id1,.int .i64 ic1,.bool iu1,.bool ie1] 162 wa):=by
   rw[hwa];exact(aN.laid #[.int .i64 in0,.int .i64 id0,.int .i64 ic0,.bool iu0,.bool ie0,.int .i64 in1,.int .i64 id1,.int .i64 ic1,.bool iu1,.bool ie1] 162 (aB.refl w)).tr ((aB.refl _).al _)
  have BR:Hid (aN w (w.heap.size+1) #[.int .i64 0,.int .i64 0,.int .i64 0,.bool false,.bool false,.int .i64 0,.int .i64 0,.int .i64 0,.bool false,.bool false] 162 wa):=by
   have:=aN.laid (w:=w.alloc (.cells #[.int .i64 in0,.int .i64 id0,.int .i64 ic0,.bool iu0,.bool ie0,.int .i64 in1,.int .i64 id1,.int .i64 ic1,.bool iu1,.bool ie1] 162)) #[.int .i64 0,.int .i64 0,.int .i64 0,.bool false,.bool false,.int .i64 0,.int .i64 0,.int .i64 0,.bool false,.bool false] 162 ((aB.refl w).al _);rw[World.size_alloc] at this;rw[hwa];exact this
  have HWA:=Lh hwa;clear hwa;have L0:=Lh BR.out.lt;have BA:=Lh ((aN.laid #[.int .i64 an,.int .i64 d,.int .i64 af,.bool up,.bool false] 161 BR.out.grow).tr ((aB.refl _).al (.cells #[.int .i64 bn,.int .i64 d,.int .i64 bf,.bool up,.bool false] 161)))
  have BB:Hid (aN w (wa.heap.size+1) #[.int .i64 bn,.int .i64 d,.int .i64 bf,.bool up,.bool false] 161 ((wa.alloc (.cells #[.int .i64 an,.int .i64 d,.int .i64 af,.bool up,.bool false] 161)).alloc (.cells #[.int .i64 bn,.int .i64 d,.int .i64 bf,.bool up,.bool false] 161))):=by
   have:=aN.laid (w:=wa.alloc (.cells #[.int .i64 an,.int .i64 d,.int .i64 af,.bool up,.bool false] 161)) #[.int .i64 bn,.int .i64 d,.int .i64 bf,.bool up,.bool false] 161 (BR.out.grow.al (.cells #[.int .i64 an,.int .i64 d,.int .i64 af,.bool up,.bool false] 161));rw[World.size_alloc] at this;exact this
  have BI:=Lh (BI.out.tr (((aB.refl wa).al (.cells #[.int .i64 an,.int .i64 d,.int .i64 af,.bool up,.bool false] 161)).al (.cells #[.int .i64 bn,.int .i64 d,.int .i64 bf,.bool up,.bool false] 161)));have BR:=Lh (BR.out.tr (((aB.refl wa).al (.cells #[.int .i64 an,.int .i64 d,.int .i64 af,.bool up,.bool false] 161)).al (.cells #[.int .i64 bn,.int .i64 d,.int .i64 bf,.bool up,.bool false] 161)))
  by_cases hlt:q<p
  ·simp only[if_pos hlt] at hsg haf hbf
   subst hsg haf hbf;have tl:decide (q<p)=true:=decide_eq_true hlt
   obtain⟨w5,w6,w7,w8⟩:IntKind.i64.wrap (ax*-1)=an/\IntKind.i64.wrap (-ax)=an/\IntKind.i64.wrap (bx*-1)=bn/\IntKind.i64.wrap (-bx)=bn:=by
    rcases WS.out with h|h
    ·exact h.2
    ·exact absurd h.1 (by decide)
   clear hlt WS;go_enter Tryz.func104,Tryz.ntmps104
   go_upto_region 1 with fail
   rw[<-HWA.out];clear HWA;go_upto_region 12 with fail
   generalize (wa.alloc (.cells #[.int .i64 an,.int .i64 d,.int .i64 hi,.bool up,.bool false] 161)).alloc (.cells #[.int .i64 bn,.int .i64 d,.int .i64 lo,.bool up,.bool false] 161)=w2 at*;generalize wa.heap.size=ab at*;clear w1 w3 w4 w5 w6 w7 w8 tl tpq;have i0:=BI.out.cell 0;have i1:=BI.out.cell 1;have i2:=BI.out.cell 2;have i3:=BI.out.cell 3;have i4:=BI.out.cell 4;have a0:=BA.out.cell 0;have a1:=BA.out.cell 1;have a2:=BA.out.cell 2;have a3:=BA.out.cell 3;have a4:=BA.out.cell 4;have n10:w.heap.size+1≠w.heap.size:=by omega
   have n01:w.heap.size≠w.heap.size+1:=by omega
   have nB:ab+1≠w.heap.size:=by have:=L0.out;omega
   go_wp2_with fail
   go_at_call 126;refine F0.out _ _ ?_;intro w3 hg3;have BI:=Lh (BI.out.tr hg3);have BR:=Lh (BR.out.tr hg3);have BA:=Lh (BA.out.tr hg3);have BB:=Lh (BB.out.tr hg3);clear hg3 i0 i1 i2 i3 i4 a0 a1 a2 a3 a4
   cases t0 with
   |true=>
    have a0:=BA.out.cell 0;have a1:=BA.out.cell 1;have a2:=BA.out.cell 2;have a3:=BA.out.cell 3;have a4:=BA.out.cell 4;have pz0:=BI.out.cell 0;have pg0:=BI.out.free 0;have pB1:=Lh (BI.out.set 0 (.int .i64 an));have pz1:=pB1.out.cell 1;have pg1:=pB1.out.free 1;have pB2:=Lh (pB1.out.set 1 (.int .i64 d));have pz2:=pB2.out.cell 2;have pg2:=pB2.out.free 2;have pB3:=Lh (pB2.out.set 2 (.int .i64 hi));have pz3:=pB3.out.cell 3;have pg3:=pB3.out.free 3;have pB4:=Lh (pB3.out.set 3 (.bool up));have pz4:=pB4.out.cell 4
    have pg4:=pB4.out.free 4;have pB5:=Lh (pB4.out.set 4 (.bool false));have BR5:=Lh ((((((BR.out.other (j:=0) (v:=.int .i64 an) n10 BI.out.2.1).other (j:=1) (v:=.int .i64 d) n10 BI.out.2.1).other (j:=2) (v:=.int .i64 hi) n10 BI.out.2.1).other (j:=3) (v:=.bool up) n10 BI.out.2.1).other (j:=4) (v:=.bool false) n10 BI.out.2.1))
    have BB5:=Lh ((((((BB.out.other (j:=0) (v:=.int .i64 an) nB BI.out.2.1).other (j:=1) (v:=.int .i64 d) nB BI.out.2.1).other (j:=2) (v:=.int .i64 hi) nB BI.out.2.1).other (j:=3) (v:=.bool up) nB BI.out.2.1).other (j:=4) (v:=.bool false) nB BI.out.2.1));go_upto_region 14 with fail
    clear a0 a1 a2 a3 a4 pz0 pg0 pz1 pg1 pz2 pg2 pz3 pg3 pz4 pg4;generalize (((((w3.setCell ⟨w.heap.size,0,none⟩ (.int .i64 an)).setCell ⟨w.heap.size,1,none⟩ (.int .i64 d)).setCell ⟨w.heap.size,2,none⟩ (.int .i64 hi)).setCell ⟨w.heap.size,3,none⟩ (.bool up)).setCell ⟨w.heap.size,4,none⟩ (.bool false))=w4 at*;have BI:Hid (aN w w.heap.size #[.int .i64 an,.int .i64 d,.int .i64 hi,.bool up,.bool false,.int .i64 in1,.int .i64 id1,.int .i64 ic1,.bool iu1,.bool ie1] 162 w4):=pB5.out;have BR:=Lh BR5.out;have BB:=Lh BB5.out;have i5:=BI.out.cell 5
    have i6:=BI.out.cell 6;have i7:=BI.out.cell 7;have i8:=BI.out.cell 8;have i9:=BI.out.cell 9;have b0:=BB.out.cell 0;have b1:=BB.out.cell 1;have b2:=BB.out.cell 2;have b3:=BB.out.cell 3;have b4:=BB.out.cell 4;go_wp2_with fail
    go_at_call 126;refine F1.out _ _ ?_;intro w5 hg5;have BI:=Lh (BI.out.tr hg5);have BR:=Lh (BR.out.tr hg5);have BB:=Lh (BB.out.tr hg5);clear hg5 i5 i6 i7 i8 i9 b0 b1 b2 b3 b4
    cases t1 with
    |true=>
     have b0:=BB.out.cell 0;have b1:=BB.out.cell 1;have b2:=BB.out.cell 2;have b3:=BB.out.cell 3;have b4:=BB.out.cell 4;have qz0:=BI.out.cell 5;have qg0:=BI.out.free 5;have qB1:=Lh (BI.out.set 5 (.int .i64 bn));have qz1:=qB1.out.cell 6;have qg1:=qB1.out.free 6;have qB2:=Lh (qB1.out.set 6 (.int .i64 d));have qz2:=qB2.out.cell 7;have qg2:=qB2.out.free 7;have qB3:=Lh (qB2.out.set 7 (.int .i64 lo));have qz3:=qB3.out.cell 8;have qg3:=qB3.out.free 8;have qB4:=Lh (qB3.out.set 8 (.bool up));have qz4:=qB4.out.cell 9
     have qg4:=qB4.out.free 9;have qB5:=Lh (qB4.out.set 9 (.bool false));have BR5:=Lh ((((((BR.out.other (j:=5) (v:=.int .i64 bn) n10 BI.out.2.1).other (j:=6) (v:=.int .i64 d) n10 BI.out.2.1).other (j:=7) (v:=.int .i64 lo) n10 BI.out.2.1).other (j:=8) (v:=.bool up) n10 BI.out.2.1).other (j:=9) (v:=.bool false) n10 BI.out.2.1));go_upto_region 16 with fail
     clear b0 b1 b2 b3 b4 qz0 qg0 qz1 qg1 qz2 qg2 qz3 qg3 qz4 qg4;generalize (((((w5.setCell ⟨w.heap.size,5,none⟩ (.int .i64 bn)).setCell ⟨w.heap.size,6,none⟩ (.int .i64 d)).setCell ⟨w.heap.size,7,none⟩ (.int .i64 lo)).setCell ⟨w.heap.size,8,none⟩ (.bool up)).setCell ⟨w.heap.size,9,none⟩ (.bool false))=w6 at*;have BI:Hid (aN w w.heap.size #[.int .i64 an,.int .i64 d,.int .i64 hi,.bool up,.bool false,.int .i64 bn,.int .i64 d,.int .i64 lo,.bool up,.bool false] 162 w6):=qB5.out;have BR:=Lh BR5.out;simp only[if_true] at F2 SS;unfold Wn.cells at F2
     dsimp only at F2;go_wp2_with fail
     refine aE (fun W=>aN w w.heap.size #[.int .i64 an,.int .i64 d,.int .i64 hi,.bool up,.bool false,.int .i64 bn,.int .i64 d,.int .i64 lo,.bool up,.bool false] 162 W) (BI.out.tr (aB.refl _).dr) 8 [0,1,2,3,4,5,6,7] (by kernel_rfl) (by kernel_rfl) (by intro c a d v w h;cases d<;>exact h) ?_
     iterate 5 (apply aD;exact rfl;exact rfl;(intro W hW;have i0:=hW.cell 0;have i1:=hW.cell 1;have i2:=hW.cell 2;have i3:=hW.cell 3;have i4:=hW.cell 4;have i5:=hW.cell 5;have i6:=hW.cell 6;have i7:=hW.cell 7;have i8:=hW.cell 8;have i9:=hW.cell 9;(try clear hW);go_simp;with_reducible rfl);try simp only[Act.put,sA,sZ,sS])
     have BI:=Lh (BI.out.tr (aB.refl _).dr);have BR:=Lh (BR.out.tr (aB.refl _).dr);apply aG;exact rfl;exact rfl;exact rfl;intro K hK;go_simp;go_at_call 126;refine F2.out _ _ ?_;intro w7 hg7;have BI:=Lh (BI.out.tr hg7);have BR:=Lh (BR.out.tr hg7);refine hK.out _ _ BI.out ?_;clear hK hg7
     try simp only[Act.put,sA,sZ,sS]
     iterate 1 (apply aD;exact rfl;exact rfl;(intro W hW;(try clear hW);go_simp;with_reducible rfl);try simp only[Act.put,sA,sZ,sS])
     have rz0:=BR.out.cell 0;have rg0:=BR.out.free 0;have rB1:=Lh (BR.out.set 0 (.int .i64 an));have rz1:=rB1.out.cell 1;have rg1:=rB1.out.free 1;have rB2:=Lh (rB1.out.set 1 (.int .i64 d));have rz2:=rB2.out.cell 2;have rg2:=rB2.out.free 2;have rB3:=Lh (rB2.out.set 2 (.int .i64 hi));have rz3:=rB3.out.cell 3;have rg3:=rB3.out.free 3;have rB4:=Lh (rB3.out.set 3 (.bool up));have rz4:=rB4.out.cell 4;have rg4:=rB4.out.free 4;have rB5:=Lh (rB4.out.set 4 (.bool false));have rz5:=rB5.out.cell 5;have rg5:=rB5.out.free 5
     have rB6:=Lh (rB5.out.set 5 (.int .i64 bn));have rz6:=rB6.out.cell 6;have rg6:=rB6.out.free 6;have rB7:=Lh (rB6.out.set 6 (.int .i64 d));have rz7:=rB7.out.cell 7;have rg7:=rB7.out.free 7;have rB8:=Lh (rB7.out.set 7 (.int .i64 lo));have rz8:=rB8.out.cell 8;have rg8:=rB8.out.free 8;have rB9:=Lh (rB8.out.set 8 (.bool up));have rz9:=rB9.out.cell 9;have rg9:=rB9.out.free 9;have rB10:=Lh (rB9.out.set 9 (.bool false))
     apply aG;exact rfl;exact rfl;exact rfl;intro K hK;go_simp;refine hK.out _ _ ((((((((((BI.out.other (j:=0) (v:=.int .i64 an) n01 BR.out.2.1).other (j:=1) (v:=.int .i64 d) n01 BR.out.2.1).other (j:=2) (v:=.int .i64 hi) n01 BR.out.2.1).other (j:=3) (v:=.bool up) n01 BR.out.2.1).other (j:=4) (v:=.bool false) n01 BR.out.2.1).other (j:=5) (v:=.int .i64 bn) n01 BR.out.2.1).other (j:=6) (v:=.int .i64 d) n01 BR.out.2.1).other (j:=7) (v:=.int .i64 lo) n01 BR.out.2.1).other (j:=8) (v:=.bool up) n01 BR.out.2.1).other (j:=9) (v:=.bool false) n01 BR.out.2.1) ?_
     clear hK rz0 rg0 rz1 rg1 rz2 rg2 rz3 rg3 rz4 rg4 rz5 rg5 rz6 rg6 rz7 rg7 rz8 rg8 rz9 rg9
     try simp only[Act.put,sA,sZ,sS]
     refine aK ?_;simp only[List.drop_succ_cons,List.drop_zero];go_wp2;have k0:=rB10.out.cell 0;have k1:=rB10.out.cell 1;have k2:=rB10.out.cell 2;have k3:=rB10.out.cell 3;have k4:=rB10.out.cell 4;have k5:=rB10.out.cell 5;have k6:=rB10.out.cell 6;have k7:=rB10.out.cell 7;have k8:=rB10.out.cell 8;have k9:=rB10.out.cell 9;simp only[sA,sZ,sS] at k0 k1 k2 k3 k4 k5 k6 k7 k8 k9
     exact bodyPost_ret (v:=.tuple #[.agg #[.int .i64 an,.int .i64 d,.int .i64 hi,.bool up,.bool false,.int .i64 bn,.int .i64 d,.int .i64 lo,.bool up,.bool false],.bool (!t2)]) (by simp[results,Tryz.f104,go_sem,k0,k1,k2,k3,k4,k5,k6,k7,k8,k9]) rfl (HR.out ⟨an,d,hi,up,false⟩ ⟨bn,d,lo,up,false⟩ _ _ SS.out rB10.out.grow)
    |false=>
     go_upto_region 16 with fail
     simp only[if_true,Bool.false_eq_true,if_false] at F2 SS;unfold Wn.cells at F2;dsimp only at F2;go_wp2_with fail
     refine aE (fun W=>aN w w.heap.size #[.int .i64 an,.int .i64 d,.int .i64 hi,.bool up,.bool false,.int .i64 in1,.int .i64 id1,.int .i64 ic1,.bool iu1,.bool ie1] 162 W) (BI.out.tr (aB.refl _).dr) 8 [0,1,2,3,4,5,6,7] (by kernel_rfl) (by kernel_rfl) (by intro c a d v w h;cases d<;>exact h) ?_
     iterate 5 (apply aD;exact rfl;exact rfl;(intro W hW;have i0:=hW.cell 0;have i1:=hW.cell 1;have i2:=hW.cell 2;have i3:=hW.cell 3;have i4:=hW.cell 4;have i5:=hW.cell 5;have i6:=hW.cell 6;have i7:=hW.cell 7;have i8:=hW.cell 8;have i9:=hW.cell 9;(try clear hW);go_simp;with_reducible rfl);try simp only[Act.put,sA,sZ,sS])
     have BI:=Lh (BI.out.tr (aB.refl _).dr);have BR:=Lh (BR.out.tr (aB.refl _).dr);apply aG;exact rfl;exact rfl;exact rfl;intro K hK;go_simp;go_at_call 126;refine F2.out _ _ ?_;intro w7 hg7;have BI:=Lh (BI.out.tr hg7);have BR:=Lh (BR.out.tr hg7);refine hK.out _ _ BI.out ?_;clear hK hg7
     try simp only[Act.put,sA,sZ,sS]
     iterate 1 (apply aD;exact rfl;exact rfl;(intro W hW;(try clear hW);go_simp;with_reducible rfl);try simp only[Act.put,sA,sZ,sS])
     have rz0:=BR.out.cell 0;have rg0:=BR.out.free 0;have rB1:=Lh (BR.out.set 0 (.int .i64 an));have rz1:=rB1.out.cell 1;have rg1:=rB1.out.free 1;have rB2:=Lh (rB1.out.set 1 (.int .i64 d));have rz2:=rB2.out.cell 2;have rg2:=rB2.out.free 2;have rB3:=Lh (rB2.out.set 2 (.int .i64 hi));have rz3:=rB3.out.cell 3;have rg3:=rB3.out.free 3;have rB4:=Lh (rB3.out.set 3 (.bool up));have rz4:=rB4.out.cell 4;have rg4:=rB4.out.free 4;have rB5:=Lh (rB4.out.set 4 (.bool false));have rz5:=rB5.out.cell 5;have rg5:=rB5.out.free 5
     have rB6:=Lh (rB5.out.set 5 (.int .i64 in1));have rz6:=rB6.out.cell 6;have rg6:=rB6.out.free 6;have rB7:=Lh (rB6.out.set 6 (.int .i64 id1));have rz7:=rB7.out.cell 7;have rg7:=rB7.out.free 7;have rB8:=Lh (rB7.out.set 7 (.int .i64 ic1));have rz8:=rB8.out.cell 8;have rg8:=rB8.out.free 8;have rB9:=Lh (rB8.out.set 8 (.bool iu1));have rz9:=rB9.out.cell 9;have rg9:=rB9.out.free 9;have rB10:=Lh (rB9.out.set 9 (.bool ie1))
     apply aG;exact rfl;exact rfl;exact rfl;intro K hK;go_simp;refine hK.out _ _ ((((((((((BI.out.other (j:=0) (v:=.int .i64 an) n01 BR.out.2.1).other (j:=1) (v:=.int .i64 d) n01 BR.out.2.1).other (j:=2) (v:=.int .i64 hi) n01 BR.out.2.1).other (j:=3) (v:=.bool up) n01 BR.out.2.1).other (j:=4) (v:=.bool false) n01 BR.out.2.1).other (j:=5) (v:=.int .i64 in1) n01 BR.out.2.1).other (j:=6) (v:=.int .i64 id1) n01 BR.out.2.1).other (j:=7) (v:=.int .i64 ic1) n01 BR.out.2.1).other (j:=8) (v:=.bool iu1) n01 BR.out.2.1).other (j:=9) (v:=.bool ie1) n01 BR.out.2.1) ?_
     clear hK rz0 rg0 rz1 rg1 rz2 rg2 rz3 rg3 rz4 rg4 rz5 rg5 rz6 rg6 rz7 rg7 rz8 rg8 rz9 rg9
     try simp only[Act.put,sA,sZ,sS]
     refine aK ?_;simp only[List.drop_succ_cons,List.drop_zero];go_wp2;have k0:=rB10.out.cell 0;have k1:=rB10.out.cell 1;have k2:=rB10.out.cell 2;have k3:=rB10.out.cell 3;have k4:=rB10.out.cell 4;have k5:=rB10.out.cell 5;have k6:=rB10.out.cell 6;have k7:=rB10.out.cell 7;have k8:=rB10.out.cell 8;have k9:=rB10.out.cell 9;simp only[sA,sZ,sS] at k0 k1 k2 k3 k4 k5 k6 k7 k8 k9
     exact bodyPost_ret (v:=.tuple #[.agg #[.int .i64 an,.int .i64 d,.int .i64 hi,.bool up,.bool false,.int .i64 in1,.int .i64 id1,.int .i64 ic1,.bool iu1,.bool ie1],.bool (!t2)]) (by simp[results,Tryz.f104,go_sem,k0,k1,k2,k3,k4,k5,k6,k7,k8,k9]) rfl (HR.out ⟨an,d,hi,up,false⟩ ⟨in1,id1,ic1,iu1,ie1⟩ _ _ SS.out rB10.out.grow)
   |false=>
    go_upto_region 14 with fail
    have i5:=BI.out.cell 5;have i6:=BI.out.cell 6;have i7:=BI.out.cell 7;have i8:=BI.out.cell 8;have i9:=BI.out.cell 9;have b0:=BB.out.cell 0;have b1:=BB.out.cell 1;have b2:=BB.out.cell 2;have b3:=BB.out.cell 3;have b4:=BB.out.cell 4;go_wp2_with fail
    go_at_call 126;refine F1.out _ _ ?_;intro w5 hg5;have BI:=Lh (BI.out.tr hg5);have BR:=Lh (BR.out.tr hg5);have BB:=Lh (BB.out.tr hg5);clear hg5 i5 i6 i7 i8 i9 b0 b1 b2 b3 b4
    cases t1 with
    |true=>
     have b0:=BB.out.cell 0;have b1:=BB.out.cell 1;have b2:=BB.out.cell 2;have b3:=BB.out.cell 3;have b4:=BB.out.cell 4;have qz0:=BI.out.cell 5;have qg0:=BI.out.free 5;have qB1:=Lh (BI.out.set 5 (.int .i64 bn));have qz1:=qB1.out.cell 6;have qg1:=qB1.out.free 6;have qB2:=Lh (qB1.out.set 6 (.int .i64 d));have qz2:=qB2.out.cell 7;have qg2:=qB2.out.free 7;have qB3:=Lh (qB2.out.set 7 (.int .i64 lo));have qz3:=qB3.out.cell 8;have qg3:=qB3.out.free 8;have qB4:=Lh (qB3.out.set 8 (.bool up));have qz4:=qB4.out.cell 9
     have qg4:=qB4.out.free 9;have qB5:=Lh (qB4.out.set 9 (.bool false));have BR5:=Lh ((((((BR.out.other (j:=5) (v:=.int .i64 bn) n10 BI.out.2.1).other (j:=6) (v:=.int .i64 d) n10 BI.out.2.1).other (j:=7) (v:=.int .i64 lo) n10 BI.out.2.1).other (j:=8) (v:=.bool up) n10 BI.out.2.1).other (j:=9) (v:=.bool false) n10 BI.out.2.1));go_upto_region 16 with fail
     clear b0 b1 b2 b3 b4 qz0 qg0 qz1 qg1 qz2 qg2 qz3 qg3 qz4 qg4;generalize (((((w5.setCell ⟨w.heap.size,5,none⟩ (.int .i64 bn)).setCell ⟨w.heap.size,6,none⟩ (.int .i64 d)).setCell ⟨w.heap.size,7,none⟩ (.int .i64 lo)).setCell ⟨w.heap.size,8,none⟩ (.bool up)).setCell ⟨w.heap.size,9,none⟩ (.bool false))=w6 at*;have BI:Hid (aN w w.heap.size #[.int .i64 in0,.int .i64 id0,.int .i64 ic0,.bool iu0,.bool ie0,.int .i64 bn,.int .i64 d,.int .i64 lo,.bool up,.bool false] 162 w6):=qB5.out;have BR:=Lh BR5.out;simp only[if_true,Bool.false_eq_true,if_false] at F2 SS
     unfold Wn.cells at F2;dsimp only at F2;go_wp2_with fail
     refine aE (fun W=>aN w w.heap.size #[.int .i64 in0,.int .i64 id0,.int .i64 ic0,.bool iu0,.bool ie0,.int .i64 bn,.int .i64 d,.int .i64 lo,.bool up,.bool false] 162 W) (BI.out.tr (aB.refl _).dr) 8 [0,1,2,3,4,5,6,7] (by kernel_rfl) (by kernel_rfl) (by intro c a d v w h;cases d<;>exact h) ?_
     iterate 5 (apply aD;exact rfl;exact rfl;(intro W hW;have i0:=hW.cell 0;have i1:=hW.cell 1;have i2:=hW.cell 2;have i3:=hW.cell 3;have i4:=hW.cell 4;have i5:=hW.cell 5;have i6:=hW.cell 6;have i7:=hW.cell 7;have i8:=hW.cell 8;have i9:=hW.cell 9;(try clear hW);go_simp;with_reducible rfl);try simp only[Act.put,sA,sZ,sS])
     have BI:=Lh (BI.out.tr (aB.refl _).dr);have BR:=Lh (BR.out.tr (aB.refl _).dr);apply aG;exact rfl;exact rfl;exact rfl;intro K hK;go_simp;go_at_call 126;refine F2.out _ _ ?_;intro w7 hg7;have BI:=Lh (BI.out.tr hg7);have BR:=Lh (BR.out.tr hg7);refine hK.out _ _ BI.out ?_;clear hK hg7
     try simp only[Act.put,sA,sZ,sS]
     iterate 1 (apply aD;exact rfl;exact rfl;(intro W hW;(try clear hW);go_simp;with_reducible rfl);try simp only[Act.put,sA,sZ,sS])
     have rz0:=BR.out.cell 0;have rg0:=BR.out.free 0;have rB1:=Lh (BR.out.set 0 (.int .i64 in0));have rz1:=rB1.out.cell 1;have rg1:=rB1.out.free 1;have rB2:=Lh (rB1.out.set 1 (.int .i64 id0));have rz2:=rB2.out.cell 2;have rg2:=rB2.out.free 2;have rB3:=Lh (rB2.out.set 2 (.int .i64 ic0));have rz3:=rB3.out.cell 3;have rg3:=rB3.out.free 3;have rB4:=Lh (rB3.out.set 3 (.bool iu0));have rz4:=rB4.out.cell 4;have rg4:=rB4.out.free 4;have rB5:=Lh (rB4.out.set 4 (.bool ie0));have rz5:=rB5.out.cell 5;have rg5:=rB5.out.free 5
     have rB6:=Lh (rB5.out.set 5 (.int .i64 bn));have rz6:=rB6.out.cell 6;have rg6:=rB6.out.free 6;have rB7:=Lh (rB6.out.set 6 (.int .i64 d));have rz7:=rB7.out.cell 7;have rg7:=rB7.out.free 7;have rB8:=Lh (rB7.out.set 7 (.int .i64 lo));have rz8:=rB8.out.cell 8;have rg8:=rB8.out.free 8;have rB9:=Lh (rB8.out.set 8 (.bool up));have rz9:=rB9.out.cell 9;have rg9:=rB9.out.free 9;have rB10:=Lh (rB9.out.set 9 (.bool false))
     apply aG;exact rfl;exact rfl;exact rfl;intro K hK;go_simp;refine hK.out _ _ ((((((((((BI.out.other (j:=0) (v:=.int .i64 in0) n01 BR.out.2.1).other (j:=1) (v:=.int .i64 id0) n01 BR.out.2.1).other (j:=2) (v:=.int .i64 ic0) n01 BR.out.2.1).other (j:=3) (v:=.bool iu0) n01 BR.out.2.1).other (j:=4) (v:=.bool ie0) n01 BR.out.2.1).other (j:=5) (v:=.int .i64 bn) n01 BR.out.2.1).other (j:=6) (v:=.int .i64 d) n01 BR.out.2.1).other (j:=7) (v:=.int .i64 lo) n01 BR.out.2.1).other (j:=8) (v:=.bool up) n01 BR.out.2.1).other (j:=9) (v:=.bool false) n01 BR.out.2.1) ?_
     clear hK rz0 rg0 rz1 rg1 rz2 rg2 rz3 rg3 rz4 rg4 rz5 rg5 rz6 rg6 rz7 rg7 rz8 rg8 rz9 rg9
     try simp only[Act.put,sA,sZ,sS]
     refine aK ?_;simp only[List.drop_succ_cons,List.drop_zero];go_wp2;have k0:=rB10.out.cell 0;have k1:=rB10.out.cell 1;have k2:=rB10.out.cell 2;have k3:=rB10.out.cell 3;have k4:=rB10.out.cell 4;have k5:=rB10.out.cell 5;have k6:=rB10.out.cell 6;have k7:=rB10.out.cell 7;have k8:=rB10.out.cell 8;have k9:=rB10.out.cell 9;simp only[sA,sZ,sS] at k0 k1 k2 k3 k4 k5 k6 k7 k8 k9
     exact bodyPost_ret (v:=.tuple #[.agg #[.int .i64 in0,.int .i64 id0,.int .i64 ic0,.bool iu0,.bool ie0,.int .i64 bn,.int .i64 d,.int .i64 lo,.bool up,.bool false],.bool (!t2)]) (by simp[results,Tryz.f104,go_sem,k0,k1,k2,k3,k4,k5,k6,k7,k8,k9]) rfl (HR.out ⟨in0,id0,ic0,iu0,ie0⟩ ⟨bn,d,lo,up,false⟩ _ _ SS.out rB10.out.grow)
    |false=>
     go_upto_region 16 with fail
     simp only[Bool.false_eq_true,if_false] at F2 SS;unfold Wn.cells at F2;dsimp only at F2;go_wp2_with fail
     refine aE (fun W=>aN w w.heap.size #[.int .i64 in0,.int .i64 id0,.int .i64 ic0,.bool iu0,.bool ie0,.int .i64 in1,.int .i64 id1,.int .i64 ic1,.bool iu1,.bool ie1] 162 W) (BI.out.tr (aB.refl _).dr) 8 [0,1,2,3,4,5,6,7] (by kernel_rfl) (by kernel_rfl) (by intro c a d v w h;cases d<;>exact h) ?_
     iterate 5 (apply aD;exact rfl;exact rfl;(intro W hW;have i0:=hW.cell 0;have i1:=hW.cell 1;have i2:=hW.cell 2;have i3:=hW.cell 3;have i4:=hW.cell 4;have i5:=hW.cell 5;have i6:=hW.cell 6;have i7:=hW.cell 7;have i8:=hW.cell 8;have i9:=hW.cell 9;(try clear hW);go_simp;with_reducible rfl);try simp only[Act.put,sA,sZ,sS])
     have BI:=Lh (BI.out.tr (aB.refl _).dr);have BR:=Lh (BR.out.tr (aB.refl _).dr);apply aG;exact rfl;exact rfl;exact rfl;intro K hK;go_simp;go_at_call 126;refine F2.out _ _ ?_;intro w7 hg7;have BI:=Lh (BI.out.tr hg7);have BR:=Lh (BR.out.tr hg7);refine hK.out _ _ BI.out ?_;clear hK hg7
     try simp only[Act.put,sA,sZ,sS]
     iterate 1 (apply aD;exact rfl;exact rfl;(intro W hW;(try clear hW);go_simp;with_reducible rfl);try simp only[Act.put,sA,sZ,sS])
     have rz0:=BR.out.cell 0;have rg0:=BR.out.free 0;have rB1:=Lh (BR.out.set 0 (.int .i64 in0));have rz1:=rB1.out.cell 1;have rg1:=rB1.out.free 1;have rB2:=Lh (rB1.out.set 1 (.int .i64 id0));have rz2:=rB2.out.cell 2;have rg2:=rB2.out.free 2;have rB3:=Lh (rB2.out.set 2 (.int .i64 ic0));have rz3:=rB3.out.cell 3;have rg3:=rB3.out.free 3;have rB4:=Lh (rB3.out.set 3 (.bool iu0));have rz4:=rB4.out.cell 4;have rg4:=rB4.out.free 4;have rB5:=Lh (rB4.out.set 4 (.bool ie0));have rz5:=rB5.out.cell 5;have rg5:=rB5.out.free 5
     have rB6:=Lh (rB5.out.set 5 (.int .i64 in1));have rz6:=rB6.out.cell 6;have rg6:=rB6.out.free 6;have rB7:=Lh (rB6.out.set 6 (.int .i64 id1));have rz7:=rB7.out.cell 7;have rg7:=rB7.out.free 7;have rB8:=Lh (rB7.out.set 7 (.int .i64 ic1));have rz8:=rB8.out.cell 8;have rg8:=rB8.out.free 8;have rB9:=Lh (rB8.out.set 8 (.bool iu1));have rz9:=rB9.out.cell 9;have rg9:=rB9.out.free 9;have rB10:=Lh (rB9.out.set 9 (.bool ie1))
     apply aG;exact rfl;exact rfl;exact rfl;intro K hK;go_simp;refine hK.out _ _ ((((((((((BI.out.other (j:=0) (v:=.int .i64 in0) n01 BR.out.2.1).other (j:=1) (v:=.int .i64 id0) n01 BR.out.2.1).other (j:=2) (v:=.int .i64 ic0) n01 BR.out.2.1).other (j:=3) (v:=.bool iu0) n01 BR.out.2.1).other (j:=4) (v:=.bool ie0) n01 BR.out.2.1).other (j:=5) (v:=.int .i64 in1) n01 BR.out.2.1).other (j:=6) (v:=.int .i64 id1) n01 BR.out.2.1).other (j:=7) (v:=.int .i64 ic1) n01 BR.out.2.1).other (j:=8) (v:=.bool iu1) n01 BR.out.2.1).other (j:=9) (v:=.bool ie1) n01 BR.out.2.1) ?_
     clear hK rz0 rg0 rz1 rg1 rz2 rg2 rz3 rg3 rz4 rg4 rz5 rg5 rz6 rg6 rz7 rg7 rz8 rg8 rz9 rg9
     try simp only[Act.put,sA,sZ,sS]
     refine aK ?_;simp only[List.drop_succ_cons,List.drop_zero];go_wp2;have k0:=rB10.out.cell 0;have k1:=rB10.out.cell 1;have k2:=rB10.out.cell 2;have k3:=rB10.out.cell 3;have k4:=rB10.out.cell 4;have k5:=rB10.out.cell 5;have k6:=rB10.out.cell 6;have k7:=rB10.out.cell 7;have k8:=rB10.out.cell 8;have k9:=rB10.out.cell 9;simp only[sA,sZ,sS] at k0 k1 k2 k3 k4 k5 k6 k7 k8 k9
     exact bodyPost_ret (v:=.tuple #[.agg #[.int .i64 in0,.int .i64 id0,.int .i64 ic0,.bool iu0,.bool ie0,.int .i64 in1,.int .i64 id1,.int .i64 ic1,.bool iu1,.bool ie1],.bool (!t2)]) (by simp[results,Tryz.f104,go_sem,k0,k1,k2,k3,k4,k5,k6,k7,k8,k9]) rfl (HR.out ⟨in0,id0,ic0,iu0,ie0⟩ ⟨in1,id1,ic1,iu1,ie1⟩ _ _ SS.out rB10.out.grow)
  ·simp only[if_neg hlt] at hsg haf hbf
   subst hsg haf hbf;have tl:decide (q<p)=false:=decide_eq_false hlt
   obtain⟨w5,w6,w7,w8⟩:IntKind.i64.wrap (ax*1)=an/\IntKind.i64.wrap ax=an/\IntKind.i64.wrap (bx*1)=bn/\IntKind.i64.wrap bx=bn:=by
    rcases WS.out with h|h
    ·exact absurd h.1 (by decide)
    ·exact h.2
   clear hlt WS;go_enter Tryz.func104,Tryz.ntmps104
   go_upto_region 1 with fail
   rw[<-HWA.out];clear HWA;go_upto_region 12 with fail
   generalize (wa.alloc (.cells #[.int .i64 an,.int .i64 d,.int .i64 lo,.bool up,.bool false] 161)).alloc (.cells #[.int .i64 bn,.int .i64 d,.int .i64 hi,.bool up,.bool false] 161)=w2 at*;generalize wa.heap.size=ab at*;clear w1 w3 w4 w5 w6 w7 w8 tl tpq;have i0:=BI.out.cell 0;have i1:=BI.out.cell 1;have i2:=BI.out.cell 2;have i3:=BI.out.cell 3;have i4:=BI.out.cell 4;have a0:=BA.out.cell 0;have a1:=BA.out.cell 1;have a2:=BA.out.cell 2;have a3:=BA.out.cell 3;have a4:=BA.out.cell 4;have n10:w.heap.size+1≠w.heap.size:=by omega
   have n01:w.heap.size≠w.heap.size+1:=by omega
   have nB:ab+1≠w.heap.size:=by have:=L0.out;omega
   go_wp2_with fail
   go_at_call 126;refine F0.out _ _ ?_;intro w3 hg3;have BI:=Lh (BI.out.tr hg3);have BR:=Lh (BR.out.tr hg3);have BA:=Lh (BA.out.tr hg3);have BB:=Lh (BB.out.tr hg3);clear hg3 i0 i1 i2 i3 i4 a0 a1 a2 a3 a4
   cases t0 with
   |true=>
    have a0:=BA.out.cell 0;have a1:=BA.out.cell 1;have a2:=BA.out.cell 2;have a3:=BA.out.cell 3;have a4:=BA.out.cell 4;have pz0:=BI.out.cell 0;have pg0:=BI.out.free 0;have pB1:=Lh (BI.out.set 0 (.int .i64 an));have pz1:=pB1.out.cell 1;have pg1:=pB1.out.free 1;have pB2:=Lh (pB1.out.set 1 (.int .i64 d));have pz2:=pB2.out.cell 2;have pg2:=pB2.out.free 2;have pB3:=Lh (pB2.out.set 2 (.int .i64 lo));have pz3:=pB3.out.cell 3;have pg3:=pB3.out.free 3;have pB4:=Lh (pB3.out.set 3 (.bool up));have pz4:=pB4.out.cell 4
    have pg4:=pB4.out.free 4;have pB5:=Lh (pB4.out.set 4 (.bool false));have BR5:=Lh ((((((BR.out.other (j:=0) (v:=.int .i64 an) n10 BI.out.2.1).other (j:=1) (v:=.int .i64 d) n10 BI.out.2.1).other (j:=2) (v:=.int .i64 lo) n10 BI.out.2.1).other (j:=3) (v:=.bool up) n10 BI.out.2.1).other (j:=4) (v:=.bool false) n10 BI.out.2.1))
    have BB5:=Lh ((((((BB.out.other (j:=0) (v:=.int .i64 an) nB BI.out.2.1).other (j:=1) (v:=.int .i64 d) nB BI.out.2.1).other (j:=2) (v:=.int .i64 lo) nB BI.out.2.1).other (j:=3) (v:=.bool up) nB BI.out.2.1).other (j:=4) (v:=.bool false) nB BI.out.2.1));go_upto_region 14 with fail
    clear a0 a1 a2 a3 a4 pz0 pg0 pz1 pg1 pz2 pg2 pz3 pg3 pz4 pg4;generalize (((((w3.setCell ⟨w.heap.size,0,none⟩ (.int .i64 an)).setCell ⟨w.heap.size,1,none⟩ (.int .i64 d)).setCell ⟨w.heap.size,2,none⟩ (.int .i64 lo)).setCell ⟨w.heap.size,3,none⟩ (.bool up)).setCell ⟨w.heap.size,4,none⟩ (.bool false))=w4 at*;have BI:Hid (aN w w.heap.size #[.int .i64 an,.int .i64 d,.int .i64 lo,.bool up,.bool false,.int .i64 in1,.int .i64 id1,.int .i64 ic1,.bool iu1,.bool ie1] 162 w4):=pB5.out;have BR:=Lh BR5.out;have BB:=Lh BB5.out;have i5:=BI.out.cell 5
    have i6:=BI.out.cell 6;have i7:=BI.out.cell 7;have i8:=BI.out.cell 8;have i9:=BI.out.cell 9;have b0:=BB.out.cell 0;have b1:=BB.out.cell 1;have b2:=BB.out.cell 2;have b3:=BB.out.cell 3;have b4:=BB.out.cell 4;go_wp2_with fail
    go_at_call 126;refine F1.out _ _ ?_;intro w5 hg5;have BI:=Lh (BI.out.tr hg5);have BR:=Lh (BR.out.tr hg5);have BB:=Lh (BB.out.tr hg5);clear hg5 i5 i6 i7 i8 i9 b0 b1 b2 b3 b4
    cases t1 with
    |true=>
     have b0:=BB.out.cell 0;have b1:=BB.out.cell 1;have b2:=BB.out.cell 2;have b3:=BB.out.cell 3;have b4:=BB.out.cell 4;have qz0:=BI.out.cell 5;have qg0:=BI.out.free 5;have qB1:=Lh (BI.out.set 5 (.int .i64 bn));have qz1:=qB1.out.cell 6;have qg1:=qB1.out.free 6;have qB2:=Lh (qB1.out.set 6 (.int .i64 d));have qz2:=qB2.out.cell 7;have qg2:=qB2.out.free 7;have qB3:=Lh (qB2.out.set 7 (.int .i64 hi));have qz3:=qB3.out.cell 8;have qg3:=qB3.out.free 8;have qB4:=Lh (qB3.out.set 8 (.bool up));have qz4:=qB4.out.cell 9
     have qg4:=qB4.out.free 9;have qB5:=Lh (qB4.out.set 9 (.bool false));have BR5:=Lh ((((((BR.out.other (j:=5) (v:=.int .i64 bn) n10 BI.out.2.1).other (j:=6) (v:=.int .i64 d) n10 BI.out.2.1).other (j:=7) (v:=.int .i64 hi) n10 BI.out.2.1).other (j:=8) (v:=.bool up) n10 BI.out.2.1).other (j:=9) (v:=.bool false) n10 BI.out.2.1));go_upto_region 16 with fail
     clear b0 b1 b2 b3 b4 qz0 qg0 qz1 qg1 qz2 qg2 qz3 qg3 qz4 qg4;generalize (((((w5.setCell ⟨w.heap.size,5,none⟩ (.int .i64 bn)).setCell ⟨w.heap.size,6,none⟩ (.int .i64 d)).setCell ⟨w.heap.size,7,none⟩ (.int .i64 hi)).setCell ⟨w.heap.size,8,none⟩ (.bool up)).setCell ⟨w.heap.size,9,none⟩ (.bool false))=w6 at*;have BI:Hid (aN w w.heap.size #[.int .i64 an,.int .i64 d,.int .i64 lo,.bool up,.bool false,.int .i64 bn,.int .i64 d,.int .i64 hi,.bool up,.bool false] 162 w6):=qB5.out;have BR:=Lh BR5.out;simp only[if_true] at F2 SS;unfold Wn.cells at F2
     dsimp only at F2;go_wp2_with fail
     refine aE (fun W=>aN w w.heap.size #[.int .i64 an,.int .i64 d,.int .i64 lo,.bool up,.bool false,.int .i64 bn,.int .i64 d,.int .i64 hi,.bool up,.bool false] 162 W) (BI.out.tr (aB.refl _).dr) 8 [0,1,2,3,4,5,6,7] (by kernel_rfl) (by kernel_rfl) (by intro c a d v w h;cases d<;>exact h) ?_
     iterate 5 (apply aD;exact rfl;exact rfl;(intro W hW;have i0:=hW.cell 0;have i1:=hW.cell 1;have i2:=hW.cell 2;have i3:=hW.cell 3;have i4:=hW.cell 4;have i5:=hW.cell 5;have i6:=hW.cell 6;have i7:=hW.cell 7;have i8:=hW.cell 8;have i9:=hW.cell 9;(try clear hW);go_simp;with_reducible rfl);try simp only[Act.put,sA,sZ,sS])
     have BI:=Lh (BI.out.tr (aB.refl _).dr);have BR:=Lh (BR.out.tr (aB.refl _).dr);apply aG;exact rfl;exact rfl;exact rfl;intro K hK;go_simp;go_at_call 126;refine F2.out _ _ ?_;intro w7 hg7;have BI:=Lh (BI.out.tr hg7);have BR:=Lh (BR.out.tr hg7);refine hK.out _ _ BI.out ?_;clear hK hg7
     try simp only[Act.put,sA,sZ,sS]
     iterate 1 (apply aD;exact rfl;exact rfl;(intro W hW;(try clear hW);go_simp;with_reducible rfl);try simp only[Act.put,sA,sZ,sS])
     have rz0:=BR.out.cell 0;have rg0:=BR.out.free 0;have rB1:=Lh (BR.out.set 0 (.int .i64 an));have rz1:=rB1.out.cell 1;have rg1:=rB1.out.free 1;have rB2:=Lh (rB1.out.set 1 (.int .i64 d));have rz2:=rB2.out.cell 2;have rg2:=rB2.out.free 2;have rB3:=Lh (rB2.out.set 2 (.int .i64 lo));have rz3:=rB3.out.cell 3;have rg3:=rB3.out.free 3;have rB4:=Lh (rB3.out.set 3 (.bool up));have rz4:=rB4.out.cell 4;have rg4:=rB4.out.free 4;have rB5:=Lh (rB4.out.set 4 (.bool false));have rz5:=rB5.out.cell 5;have rg5:=rB5.out.free 5
     have rB6:=Lh (rB5.out.set 5 (.int .i64 bn));have rz6:=rB6.out.cell 6;have rg6:=rB6.out.free 6;have rB7:=Lh (rB6.out.set 6 (.int .i64 d));have rz7:=rB7.out.cell 7;have rg7:=rB7.out.free 7;have rB8:=Lh (rB7.out.set 7 (.int .i64 hi));have rz8:=rB8.out.cell 8;have rg8:=rB8.out.free 8;have rB9:=Lh (rB8.out.set 8 (.bool up));have rz9:=rB9.out.cell 9;have rg9:=rB9.out.free 9;have rB10:=Lh (rB9.out.set 9 (.bool false))
     apply aG;exact rfl;exact rfl;exact rfl;intro K hK;go_simp;refine hK.out _ _ ((((((((((BI.out.other (j:=0) (v:=.int .i64 an) n01 BR.out.2.1).other (j:=1) (v:=.int .i64 d) n01 BR.out.2.1).other (j:=2) (v:=.int .i64 lo) n01 BR.out.2.1).other (j:=3) (v:=.bool up) n01 BR.out.2.1).other (j:=4) (v:=.bool false) n01 BR.out.2.1).other (j:=5) (v:=.int .i64 bn) n01 BR.out.2.1).other (j:=6) (v:=.int .i64 d) n01 BR.out.2.1).other (j:=7) (v:=.int .i64 hi) n01 BR.out.2.1).other (j:=8) (v:=.bool up) n01 BR.out.2.1).other (j:=9) (v:=.bool false) n01 BR.out.2.1) ?_
     clear hK rz0 rg0 rz1 rg1 rz2 rg2 rz3 rg3 rz4 rg4 rz5 rg5 rz6 rg6 rz7 rg7 rz8 rg8 rz9 rg9
     try simp only[Act.put,sA,sZ,sS]
     refine aK ?_;simp only[List.drop_succ_cons,List.drop_zero];go_wp2;have k0:=rB10.out.cell 0;have k1:=rB10.out.cell 1;have k2:=rB10.out.cell 2;have k3:=rB10.out.cell 3;have k4:=rB10.out.cell 4;have k5:=rB10.out.cell 5;have k6:=rB10.out.cell 6;have k7:=rB10.out.cell 7;have k8:=rB10.out.cell 8;have k9:=rB10.out.cell 9;simp only[sA,sZ,sS] at k0 k1 k2 k3 k4 k5 k6 k7 k8 k9
     exact bodyPost_ret (v:=.tuple #[.agg #[.int .i64 an,.int .i64 d,.int .i64 lo,.bool up,.bool false,.int .i64 bn,.int .i64 d,.int .i64 hi,.bool up,.bool false],.bool (!t2)]) (by simp[results,Tryz.f104,go_sem,k0,k1,k2,k3,k4,k5,k6,k7,k8,k9]) rfl (HR.out ⟨an,d,lo,up,false⟩ ⟨bn,d,hi,up,false⟩ _ _ SS.out rB10.out.grow)
    |false=>
     go_upto_region 16 with fail
     simp only[if_true,Bool.false_eq_true,if_false] at F2 SS;unfold Wn.cells at F2;dsimp only at F2;go_wp2_with fail
     refine aE (fun W=>aN w w.heap.size #[.int .i64 an,.int .i64 d,.int .i64 lo,.bool up,.bool false,.int .i64 in1,.int .i64 id1,.int .i64 ic1,.bool iu1,.bool ie1] 162 W) (BI.out.tr (aB.refl _).dr) 8 [0,1,2,3,4,5,6,7] (by kernel_rfl) (by kernel_rfl) (by intro c a d v w h;cases d<;>exact h) ?_
     iterate 5 (apply aD;exact rfl;exact rfl;(intro W hW;have i0:=hW.cell 0;have i1:=hW.cell 1;have i2:=hW.cell 2;have i3:=hW.cell 3;have i4:=hW.cell 4;have i5:=hW.cell 5;have i6:=hW.cell 6;have i7:=hW.cell 7;have i8:=hW.cell 8;have i9:=hW.cell 9;(try clear hW);go_simp;with_reducible rfl);try simp only[Act.put,sA,sZ,sS])
     have BI:=Lh (BI.out.tr (aB.refl _).dr);have BR:=Lh (BR.out.tr (aB.refl _).dr);apply aG;exact rfl;exact rfl;exact rfl;intro K hK;go_simp;go_at_call 126;refine F2.out _ _ ?_;intro w7 hg7;have BI:=Lh (BI.out.tr hg7);have BR:=Lh (BR.out.tr hg7);refine hK.out _ _ BI.out ?_;clear hK hg7
     try simp only[Act.put,sA,sZ,sS]
     iterate 1 (apply aD;exact rfl;exact rfl;(intro W hW;(try clear hW);go_simp;with_reducible rfl);try simp only[Act.put,sA,sZ,sS])
     have rz0:=BR.out.cell 0;have rg0:=BR.out.free 0;have rB1:=Lh (BR.out.set 0 (.int .i64 an));have rz1:=rB1.out.cell 1;have rg1:=rB1.out.free 1;have rB2:=Lh (rB1.out.set 1 (.int .i64 d));have rz2:=rB2.out.cell 2;have rg2:=rB2.out.free 2;have rB3:=Lh (rB2.out.set 2 (.int .i64 lo));have rz3:=rB3.out.cell 3;have rg3:=rB3.out.free 3;have rB4:=Lh (rB3.out.set 3 (.bool up));have rz4:=rB4.out.cell 4;have rg4:=rB4.out.free 4;have rB5:=Lh (rB4.out.set 4 (.bool false));have rz5:=rB5.out.cell 5;have rg5:=rB5.out.free 5
     have rB6:=Lh (rB5.out.set 5 (.int .i64 in1));have rz6:=rB6.out.cell 6;have rg6:=rB6.out.free 6;have rB7:=Lh (rB6.out.set 6 (.int .i64 id1));have rz7:=rB7.out.cell 7;have rg7:=rB7.out.free 7;have rB8:=Lh (rB7.out.set 7 (.int .i64 ic1));have rz8:=rB8.out.cell 8;have rg8:=rB8.out.free 8;have rB9:=Lh (rB8.out.set 8 (.bool iu1));have rz9:=rB9.out.cell 9;have rg9:=rB9.out.free 9;have rB10:=Lh (rB9.out.set 9 (.bool ie1))
     apply aG;exact rfl;exact rfl;exact rfl;intro K hK;go_simp;refine hK.out _ _ ((((((((((BI.out.other (j:=0) (v:=.int .i64 an) n01 BR.out.2.1).other (j:=1) (v:=.int .i64 d) n01 BR.out.2.1).other (j:=2) (v:=.int .i64 lo) n01 BR.out.2.1).other (j:=3) (v:=.bool up) n01 BR.out.2.1).other (j:=4) (v:=.bool false) n01 BR.out.2.1).other (j:=5) (v:=.int .i64 in1) n01 BR.out.2.1).other (j:=6) (v:=.int .i64 id1) n01 BR.out.2.1).other (j:=7) (v:=.int .i64 ic1) n01 BR.out.2.1).other (j:=8) (v:=.bool iu1) n01 BR.out.2.1).other (j:=9) (v:=.bool ie1) n01 BR.out.2.1) ?_
     clear hK rz0 rg0 rz1 rg1 rz2 rg2 rz3 rg3 rz4 rg4 rz5 rg5 rz6 rg6 rz7 rg7 rz8 rg8 rz9 rg9
     try simp only[Act.put,sA,sZ,sS]
     refine aK ?_;simp only[List.drop_succ_cons,List.drop_zero];go_wp2;have k0:=rB10.out.cell 0;have k1:=rB10.out.cell 1;have k2:=rB10.out.cell 2;have k3:=rB10.out.cell 3;have k4:=rB10.out.cell 4;have k5:=rB10.out.cell 5;have k6:=rB10.out.cell 6;have k7:=rB10.out.cell 7;have k8:=rB10.out.cell 8;have k9:=rB10.out.cell 9;simp only[sA,sZ,sS] at k0 k1 k2 k3 k4 k5 k6 k7 k8 k9
     exact bodyPost_ret (v:=.tuple #[.agg #[.int .i64 an,.int .i64 d,.int .i64 lo,.bool up,.bool false,.int .i64 in1,.int .i64 id1,.int .i64 ic1,.bool iu1,.bool ie1],.bool (!t2)]) (by simp[results,Tryz.f104,go_sem,k0,k1,k2,k3,k4,k5,k6,k7,k8,k9]) rfl (HR.out ⟨an,d,lo,up,false⟩ ⟨in1,id1,ic1,iu1,ie1⟩ _ _ SS.out rB10.out.grow)
   |false=>
    go_upto_region 14 with fail
    have i5:=BI.out.cell 5;have i6:=BI.out.cell 6;have i7:=BI.out.cell 7;have i8:=BI.out.cell 8;have i9:=BI.out.cell 9;have b0:=BB.out.cell 0;have b1:=BB.out.cell 1;have b2:=BB.out.cell 2;have b3:=BB.out.cell 3;have b4:=BB.out.cell 4;go_wp2_with fail
    go_at_call 126;refine F1.out _ _ ?_;intro w5 hg5;have BI:=Lh (BI.out.tr hg5);have BR:=Lh (BR.out.tr hg5);have BB:=Lh (BB.out.tr hg5);clear hg5 i5 i6 i7 i8 i9 b0 b1 b2 b3 b4
    cases t1 with
    |true=>
     have b0:=BB.out.cell 0;have b1:=BB.out.cell 1;have b2:=BB.out.cell 2;have b3:=BB.out.cell 3;have b4:=BB.out.cell 4;have qz0:=BI.out.cell 5;have qg0:=BI.out.free 5;have qB1:=Lh (BI.out.set 5 (.int .i64 bn));have qz1:=qB1.out.cell 6;have qg1:=qB1.out.free 6;have qB2:=Lh (qB1.out.set 6 (.int .i64 d));have qz2:=qB2.out.cell 7;have qg2:=qB2.out.free 7;have qB3:=Lh (qB2.out.set 7 (.int .i64 hi));have qz3:=qB3.out.cell 8;have qg3:=qB3.out.free 8;have qB4:=Lh (qB3.out.set 8 (.bool up));have qz4:=qB4.out.cell 9
     have qg4:=qB4.out.free 9;have qB5:=Lh (qB4.out.set 9 (.bool false));have BR5:=Lh ((((((BR.out.other (j:=5) (v:=.int .i64 bn) n10 BI.out.2.1).other (j:=6) (v:=.int .i64 d) n10 BI.out.2.1).other (j:=7) (v:=.int .i64 hi) n10 BI.out.2.1).other (j:=8) (v:=.bool up) n10 BI.out.2.1).other (j:=9) (v:=.bool false) n10 BI.out.2.1));go_upto_region 16 with fail
     clear b0 b1 b2 b3 b4 qz0 qg0 qz1 qg1 qz2 qg2 qz3 qg3 qz4 qg4;generalize (((((w5.setCell ⟨w.heap.size,5,none⟩ (.int .i64 bn)).setCell ⟨w.heap.size,6,none⟩ (.int .i64 d)).setCell ⟨w.heap.size,7,none⟩ (.int .i64 hi)).setCell ⟨w.heap.size,8,none⟩ (.bool up)).setCell ⟨w.heap.size,9,none⟩ (.bool false))=w6 at*;have BI:Hid (aN w w.heap.size #[.int .i64 in0,.int .i64 id0,.int .i64 ic0,.bool iu0,.bool ie0,.int .i64 bn,.int .i64 d,.int .i64 hi,.bool up,.bool false] 162 w6):=qB5.out;have BR:=Lh BR5.out;simp only[if_true,Bool.false_eq_true,if_false] at F2 SS
     unfold Wn.cells at F2;dsimp only at F2;go_wp2_with fail
     refine aE (fun W=>aN w w.heap.size #[.int .i64 in0,.int .i64 id0,.int .i64 ic0,.bool iu0,.bool ie0,.int .i64 bn,.int .i64 d,.int .i64 hi,.bool up,.bool false] 162 W) (BI.out.tr (aB.refl _).dr) 8 [0,1,2,3,4,5,6,7] (by kernel_rfl) (by kernel_rfl) (by intro c a d v w h;cases d<;>exact h) ?_
     iterate 5 (apply aD;exact rfl;exact rfl;(intro W hW;have i0:=hW.cell 0;have i1:=hW.cell 1;have i2:=hW.cell 2;have i3:=hW.cell 3;have i4:=hW.cell 4;have i5:=hW.cell 5;have i6:=hW.cell 6;have i7:=hW.cell 7;have i8:=hW.cell 8;have i9:=hW.cell 9;(try clear hW);go_simp;with_reducible rfl);try simp only[Act.put,sA,sZ,sS])
     have BI:=Lh (BI.out.tr (aB.refl _).dr);have BR:=Lh (BR.out.tr (aB.refl _).dr);apply aG;exact rfl;exact rfl;exact rfl;intro K hK;go_simp;go_at_call 126;refine F2.out _ _ ?_;intro w7 hg7;have BI:=Lh (BI.out.tr hg7);have BR:=Lh (BR.out.tr hg7);refine hK.out _ _ BI.out ?_;clear hK hg7
     try simp only[Act.put,sA,sZ,sS]
     iterate 1 (apply aD;exact rfl;exact rfl;(intro W hW;(try clear hW);go_simp;with_reducible rfl);try simp only[Act.put,sA,sZ,sS])
     have rz0:=BR.out.cell 0;have rg0:=BR.out.free 0;have rB1:=Lh (BR.out.set 0 (.int .i64 in0));have rz1:=rB1.out.cell 1;have rg1:=rB1.out.free 1;have rB2:=Lh (rB1.out.set 1 (.int .i64 id0));have rz2:=rB2.out.cell 2;have rg2:=rB2.out.free 2;have rB3:=Lh (rB2.out.set 2 (.int .i64 ic0));have rz3:=rB3.out.cell 3;have rg3:=rB3.out.free 3;have rB4:=Lh (rB3.out.set 3 (.bool iu0));have rz4:=rB4.out.cell 4;have rg4:=rB4.out.free 4;have rB5:=Lh (rB4.out.set 4 (.bool ie0));have rz5:=rB5.out.cell 5;have rg5:=rB5.out.free 5
     have rB6:=Lh (rB5.out.set 5 (.int .i64 bn));have rz6:=rB6.out.cell 6;have rg6:=rB6.out.free 6;have rB7:=Lh (rB6.out.set 6 (.int .i64 d));have rz7:=rB7.out.cell 7;have rg7:=rB7.out.free 7;have rB8:=Lh (rB7.out.set 7 (.int .i64 hi));have rz8:=rB8.out.cell 8;have rg8:=rB8.out.free 8;have rB9:=Lh (rB8.out.set 8 (.bool up));have rz9:=rB9.out.cell 9;have rg9:=rB9.out.free 9;have rB10:=Lh (rB9.out.set 9 (.bool false))
     apply aG;exact rfl;exact rfl;exact rfl;intro K hK;go_simp;refine hK.out _ _ ((((((((((BI.out.other (j:=0) (v:=.int .i64 in0) n01 BR.out.2.1).other (j:=1) (v:=.int .i64 id0) n01 BR.out.2.1).other (j:=2) (v:=.int .i64 ic0) n01 BR.out.2.1).other (j:=3) (v:=.bool iu0) n01 BR.out.2.1).other (j:=4) (v:=.bool ie0) n01 BR.out.2.1).other (j:=5) (v:=.int .i64 bn) n01 BR.out.2.1).other (j:=6) (v:=.int .i64 d) n01 BR.out.2.1).other (j:=7) (v:=.int .i64 hi) n01 BR.out.2.1).other (j:=8) (v:=.bool up) n01 BR.out.2.1).other (j:=9) (v:=.bool false) n01 BR.out.2.1) ?_
     clear hK rz0 rg0 rz1 rg1 rz2 rg2 rz3 rg3 rz4 rg4 rz5 rg5 rz6 rg6 rz7 rg7 rz8 rg8 rz9 rg9
     try simp only[Act.put,sA,sZ,sS]
     refine aK ?_;simp only[List.drop_succ_cons,List.drop_zero];go_wp2;have k0:=rB10.out.cell 0;have k1:=rB10.out.cell 1;have k2:=rB10.out.cell 2;have k3:=rB10.out.cell 3;have k4:=rB10.out.cell 4;have k5:=rB10.out.cell 5;have k6:=rB10.out.cell 6;have k7:=rB10.out.cell 7;have k8:=rB10.out.cell 8;have k9:=rB10.out.cell 9;simp only[sA,sZ,sS] at k0 k1 k2 k3 k4 k5 k6 k7 k8 k9
     exact bodyPost_ret (v:=.tuple #[.agg #[.int .i64 in0,.int .i64 id0,.int .i64 ic0,.bool iu0,.bool ie0,.int .i64 bn,.int .i64 d,.int .i64 hi,.bool up,.bool false],.bool (!t2)]) (by simp[results,Tryz.f104,go_sem,k0,k1,k2,k3,k4,k5,k6,k7,k8,k9]) rfl (HR.out ⟨in0,id0,ic0,iu0,ie0⟩ ⟨bn,d,hi,up,false⟩ _ _ SS.out rB10.out.grow)
    |false=>
     go_upto_region 16 with fail
     simp only[Bool.false_eq_true,if_false] at F2 SS;unfold Wn.cells at F2;dsimp only at F2;go_wp2_with fail
     refine aE (fun W=>aN w w.heap.size #[.int .i64 in0,.int .i64 id0,.int .i64 ic0,.bool iu0,.bool ie0,.int .i64 in1,.int .i64 id1,.int .i64 ic1,.bool iu1,.bool ie1] 162 W) (BI.out.tr (aB.refl _).dr) 8 [0,1,2,3,4,5,6,7] (by kernel_rfl) (by kernel_rfl) (by intro c a d v w h;cases d<;>exact h) ?_
     iterate 5 (apply aD;exact rfl;exact rfl;(intro W hW;have i0:=hW.cell 0;have i1:=hW.cell 1;have i2:=hW.cell 2;have i3:=hW.cell 3;have i4:=hW.cell 4;have i5:=hW.cell 5;have i6:=hW.cell 6;have i7:=hW.cell 7;have i8:=hW.cell 8;have i9:=hW.cell 9;(try clear hW);go_simp;with_reducible rfl);try simp only[Act.put,sA,sZ,sS])
     have BI:=Lh (BI.out.tr (aB.refl _).dr);have BR:=Lh (BR.out.tr (aB.refl _).dr);apply aG;exact rfl;exact rfl;exact rfl;intro K hK;go_simp;go_at_call 126;refine F2.out _ _ ?_;intro w7 hg7;have BI:=Lh (BI.out.tr hg7);have BR:=Lh (BR.out.tr hg7);refine hK.out _ _ BI.out ?_;clear hK hg7
     try simp only[Act.put,sA,sZ,sS]
     iterate 1 (apply aD;exact rfl;exact rfl;(intro W hW;(try clear hW);go_simp;with_reducible rfl);try simp only[Act.put,sA,sZ,sS])
     have rz0:=BR.out.cell 0;have rg0:=BR.out.free 0;have rB1:=Lh (BR.out.set 0 (.int .i64 in0));have rz1:=rB1.out.cell 1;have rg1:=rB1.out.free 1;have rB2:=Lh (rB1.out.set 1 (.int .i64 id0));have rz2:=rB2.out.cell 2;have rg2:=rB2.out.free 2;have rB3:=Lh (rB2.out.set 2 (.int .i64 ic0));have rz3:=rB3.out.cell 3;have rg3:=rB3.out.free 3;have rB4:=Lh (rB3.out.set 3 (.bool iu0));have rz4:=rB4.out.cell 4;have rg4:=rB4.out.free 4;have rB5:=Lh (rB4.out.set 4 (.bool ie0));have rz5:=rB5.out.cell 5;have rg5:=rB5.out.free 5
     have rB6:=Lh (rB5.out.set 5 (.int .i64 in1));have rz6:=rB6.out.cell 6;have rg6:=rB6.out.free 6;have rB7:=Lh (rB6.out.set 6 (.int .i64 id1));have rz7:=rB7.out.cell 7;have rg7:=rB7.out.free 7;have rB8:=Lh (rB7.out.set 7 (.int .i64 ic1));have rz8:=rB8.out.cell 8;have rg8:=rB8.out.free 8;have rB9:=Lh (rB8.out.set 8 (.bool iu1));have rz9:=rB9.out.cell 9;have rg9:=rB9.out.free 9;have rB10:=Lh (rB9.out.set 9 (.bool ie1))
     apply aG;exact rfl;exact rfl;exact rfl;intro K hK;go_simp;refine hK.out _ _ ((((((((((BI.out.other (j:=0) (v:=.int .i64 in0) n01 BR.out.2.1).other (j:=1) (v:=.int .i64 id0) n01 BR.out.2.1).other (j:=2) (v:=.int .i64 ic0) n01 BR.out.2.1).other (j:=3) (v:=.bool iu0) n01 BR.out.2.1).other (j:=4) (v:=.bool ie0) n01 BR.out.2.1).other (j:=5) (v:=.int .i64 in1) n01 BR.out.2.1).other (j:=6) (v:=.int .i64 id1) n01 BR.out.2.1).other (j:=7) (v:=.int .i64 ic1) n01 BR.out.2.1).other (j:=8) (v:=.bool iu1) n01 BR.out.2.1).other (j:=9) (v:=.bool ie1) n01 BR.out.2.1) ?_
     clear hK rz0 rg0 rz1 rg1 rz2 rg2 rz3 rg3 rz4 rg4 rz5 rg5 rz6 rg6 rz7 rg7 rz8 rg8 rz9 rg9
     try simp only[Act.put,sA,sZ,sS]
     refine aK ?_;simp only[List.drop_succ_cons,List.drop_zero];go_wp2;have k0:=rB10.out.cell 0;have k1:=rB10.out.cell 1;have k2:=rB10.out.cell 2;have k3:=rB10.out.cell 3;have k4:=rB10.out.cell 4;have k5:=rB10.out.cell 5;have k6:=rB10.out.cell 6;have k7:=rB10.out.cell 7;have k8:=rB10.out.cell 8;have k9:=rB10.out.cell 9;simp only[sA,sZ,sS] at k0 k1 k2 k3 k4 k5 k6 k7 k8 k9
     exact bodyPost_ret (v:=.tuple #[.agg #[.int .i64 in0,.int .i64 id0,.int .i64 ic0,.bool iu0,.bool ie0,.int .i64 in1,.int .i64 id1,.int .i64 ic1,.bool iu1,.bool ie1],.bool (!t2)]) (by simp[results,Tryz.f104,go_sem,k0,k1,k2,k3,k4,k5,k6,k7,k8,k9]) rfl (HR.out ⟨in0,id0,ic0,iu0,ie0⟩ ⟨in1,id1,ic1,iu1,ie1⟩ _ _ SS.out rB10.out.grow)
end Go.Proofs.YtjalimkajcjapaaGreatDoor
