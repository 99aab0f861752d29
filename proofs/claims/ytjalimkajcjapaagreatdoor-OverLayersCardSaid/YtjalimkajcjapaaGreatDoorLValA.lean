import Derived.Test.YtjalimkajcjapaaGreatDoorLnA
import Derived.Test.YtjalimkajcjapaaGreatDoorRLa
namespace Go.Proofs.YtjalimkajcjapaaGreatDoor
set_option maxRecDepth 100000
open Go.RowKit B
structure PtQ where
 x:Rat
 y:Rat
def aW.pq (s:aW):PtQ:=⟨s.x.val,s.y.val⟩
def aW.rt (s:aW):Prop:=s.x.right=true/\s.y.right=true
def Pt.pq (p:Pt):PtQ:=⟨(p.x:Rat),(p.y:Rat)⟩
def onQ (p q:Pt)(t:Rat):PtQ:=⟨(p.x:Rat)+((q.x-p.x:Int):Rat)*t,(p.y:Rat)+((q.y-p.y:Int):Rat)*t⟩
def bZ (p q:Pt)(lo hi:Int):PtQ×PtQ×Bool:=
 if bY p q lo hi=true then(⟨0,0⟩,⟨0,0⟩,false)
 else if (bN 0 1 p.x q.x lo hi).2.2=false then(⟨0,0⟩,⟨0,0⟩,false)
 else if (bN (bN 0 1 p.x q.x lo hi).1 (bN 0 1 p.x q.x lo hi).2.1 p.y q.y lo hi).2.2=false then(⟨0,0⟩,⟨0,0⟩,false)
 else(onQ p q (bN (bN 0 1 p.x q.x lo hi).1 (bN 0 1 p.x q.x lo hi).2.1 p.y q.y lo hi).1,onQ p q (bN (bN 0 1 p.x q.x lo hi).1 (bN 0 1 p.x q.x lo hi).2.1 p.y q.y lo hi).2.1,true)
def Wn.val (a:Wn):Rat:=(a.n:Rat)/(a.d:Rat)
theorem oA {a b:Wn}(ha:0<a.d)(hb:0<b.d):a.after b=decide (b.val<a.val):=by
 rw[Bool.eq_iff_iff,lK,decide_eq_true_eq];unfold Wn.val;rw[gS (dD hb) (dD ha)];have:((b.n:Rat)*(a.d:Rat)<(a.n:Rat)*(b.d:Rat))↔b.n*a.d<a.n*b.d:=by exact_mod_cast Iff.rfl
 rw[this];omega
theorem slabA_val {s t lo hi:Int}{up:Bool}(h:s≠t):(iY s t lo hi up).val=cO s t lo hi/\(iX s t lo hi up).val=cN s t lo hi:=by
 unfold iY iX cO cN Wn.val;dsimp only;have h0:((t-s:Int):Rat)≠0:=by exact_mod_cast (show t-s≠0 by omega)
 by_cases hc:t<s
 ·simp only[if_pos hc,show max (t-s) (s-t)=-(t-s) by omega]
  push_cast at h0 ⊢
  constructor<;>grind
 ·simp only[if_neg hc,show max (t-s) (s-t)=t-s by omega]
  push_cast at h0 ⊢
  constructor<;>grind
theorem vJ {i0 i1 j0 j1:Wn}{s t lo hi:Int}{up ok:Bool}(h0:0<i0.d)(h1:0<i1.d)(h:gH i0 i1 s t lo hi up=(j0,j1,ok)):
  bN i0.val i1.val s t lo hi=(j0.val,j1.val,ok)/\0<j0.d/\0<j1.d/\(j0=i0∨j0.en=false)/\(j1=i1∨j1.en=false):=by
 unfold gH at h;unfold bN
 split at h
 ·rename_i he
  rw[if_pos he];rw[Prod.mk.injEq,Prod.mk.injEq] at h;obtain⟨rfl,rfl,rfl⟩:=h;exact⟨rfl,h0,h1,.inl rfl,.inl rfl⟩
 ·rename_i hne
  rw[if_neg hne];rw[Prod.mk.injEq,Prod.mk.injEq] at h;obtain⟨e0,e1,e2⟩:=h;have hA:0<(iY s t lo hi up).d:=by show 0<max _ _;omega
  have hB:0<(iX s t lo hi up).d:=by show 0<max _ _;omega
  obtain⟨vA,vB⟩:=slabA_val (lo:=lo) (hi:=hi) (up:=up) hne;have enA:(iY s t lo hi up).en=false:=rfl;have enB:(iX s t lo hi up).en=false:=rfl;generalize iY s t lo hi up=A at*;generalize iX s t lo hi up=B at*;rw[<-vA,<-vB]
  have k0:j0.val=(if i0.val<A.val then A.val else i0.val)/\0<j0.d/\(j0=i0∨j0.en=false):=by
   rw[<-e0];unfold mM;rw[oA hA h0]
   by_cases hc:i0.val<A.val
   ·rw[if_pos (decide_eq_true hc),if_pos hc];exact⟨rfl,hA,.inr enA⟩
   ·rw[if_neg (by simpa using hc),if_neg hc];exact⟨rfl,h0,.inl rfl⟩
  have k1:j1.val=(if B.val<i1.val then B.val else i1.val)/\0<j1.d/\(j1=i1∨j1.en=false):=by
   rw[<-e1];unfold mL;rw[oA h1 hB]
   by_cases hc:B.val<i1.val
   ·rw[if_pos (decide_eq_true hc),if_pos hc];exact⟨rfl,hB,.inr enB⟩
   ·rw[if_neg (by simpa using hc),if_neg hc];exact⟨rfl,h1,.inl rfl⟩
  rw[<-k0.1,<-k1.1,<-e2,e0,e1,oA k0.2.1 k1.2.1];refine⟨?_,k0.2.1,k1.2.1,k0.2.2,k1.2.2⟩;rw[<-decide_not,show decide (j0.val<=j1.val)=decide (¬ j1.val<j0.val) from decide_eq_decide.2 Rat.not_lt.symm]
theorem mD {p q:Pt}{c:Int}(hp:p.far=false)(hq:q.far=false)(hn:eT p q c=false):
  (dT p q c).val=(p.y:Rat)+((c-p.x:Int):Rat)*((q.y-p.y:Int):Rat)/((q.x-p.x:Int):Rat):=by
 obtain⟨hr,hv⟩:=kR hp hq hn;obtain⟨hx,-⟩:=fH hn;generalize dT p q c=f at*;obtain⟨-,hd,-⟩:=Fr.right_iff hr;have hd':(0:Rat)<((f.d:Int):Rat):=dD (by omega);have hq0:((q.x-p.x:Int):Rat)≠0:=by exact_mod_cast (show q.x-p.x≠0 by omega)
 have hv':(((f.q*f.d+f.r)*(bQ p q:Int):Int):Rat)=(((p.y*(bQ p q:Int)+fB p q c)*f.d:Int):Rat):=by exact_mod_cast hv
 unfold Fr.val;unfold fB at hv'
 by_cases hc:q.x-p.x<0
 ·have e:((bQ p q:Nat):Int)=-(q.x-p.x):=by unfold bQ;omega
  rw[if_pos hc,e] at hv';push_cast at hv' hd' hq0 ⊢
  grind
 ·have e:((bQ p q:Nat):Int)=q.x-p.x:=by unfold bQ;omega
  rw[if_neg hc,e] at hv';push_cast at hv' hd' hq0 ⊢
  grind
theorem bS {n:Int}(h:inw n=true):(⟨n,0,1⟩:Fr).right=true:=by
 simp only[inw,Bool.and_eq_true,decide_eq_true_eq] at h;simp[Fr.right,inw,h]
theorem dI (n:Int):(⟨n,0,1⟩:Fr).val=(n:Rat):=by
 unfold Fr.val;dsimp only;have:(((0:Nat):Rat))=0:=rfl;rw[this];grind
theorem rY {a:Wn}{p q e:Pt}{lo hi:Int}(h:WG p q lo hi a)(hp:p.far=false)(hq:q.far=false)(he:e.far=false)(hl:inw lo=true)(hh:inw hi=true)(hen:a.en=true->onQ p q a.val=e.pq):
  (jX a p q e).pq=onQ p q a.val/\(jX a p q e).rt:=by
 unfold jX
 cases hc:a.en with
 |true=>
  rw[if_pos rfl,hen hc];have:=far_in he;exact⟨by unfold aW.pq Pt.pq;dsimp only;rw[dI,dI],bS this.1,bS this.2⟩
 |false=>
  rw[if_neg (by decide)];have hr:=h.frac hp hq hl hh hc;have hm:=h.met hc;obtain⟨hcw,hne,hd,hn⟩:=h.at_ hc
  have hv:a.val=((a.c-co a.up p:Int):Rat)/((co a.up q-co a.up p:Int):Rat):=by
   unfold Wn.val;have h0:((co a.up q-co a.up p:Int):Rat)≠0:=by exact_mod_cast (show co a.up q-co a.up p≠0 by omega)
   rw[hd,hn]
   by_cases hlt:co a.up q<co a.up p
   ·rw[if_pos hlt,show max (co a.up q-co a.up p) (co a.up p-co a.up q)=-(co a.up q-co a.up p) by omega]
    push_cast at h0 ⊢
    grind
   ·rw[if_neg hlt,show max (co a.up q-co a.up p) (co a.up p-co a.up q)=co a.up q-co a.up p by omega]
    push_cast at h0 ⊢
    grind
  have hcs:(cW p q a.c a.up).1=if a.up=true then dT p.swap q.swap a.c else dT p q a.c:=by
   unfold cW fD;rw[hp,hq,hr.1];simp only[Bool.or_false,Bool.not_true,Bool.false_eq_true,if_false]
   cases hu:a.up with
   |true=>rw[hu] at hm;simp only[if_true] at hm ⊢;rw[hm];rfl
   |false=>rw[hu] at hm;simp only[Bool.false_eq_true,if_false] at hm ⊢;rw[hm];rfl
  cases hu:a.up with
  |true=>
   rw[hu] at hcs hv hne hm hr;simp only[if_true] at hcs hm ⊢;refine⟨?_,hr.2,bS hr.1⟩;have hx:=mD (by rw[Pt.swap_far];exact hp) (by rw[Pt.swap_far];exact hq) hm;unfold aW.pq onQ;dsimp only;rw[hcs,hx,dI,hv];unfold co Pt.swap at*;simp only[if_true] at*;have h0:((q.y-p.y:Int):Rat)≠0:=by exact_mod_cast (show q.y-p.y≠0 by omega)
   push_cast at h0 ⊢
   rw[PtQ.mk.injEq]
   constructor<;>grind
  |false=>
   rw[hu] at hcs hv hne hm hr;simp only[Bool.false_eq_true,if_false] at hcs hm ⊢;refine⟨?_,bS hr.1,hr.2⟩;have hx:=mD hp hq hm;unfold aW.pq onQ;dsimp only;rw[hcs,hx,dI,hv];unfold co at*;simp only[Bool.false_eq_true,if_false] at*;have h0:((q.x-p.x:Int):Rat)≠0:=by exact_mod_cast (show q.x-p.x≠0 by omega)
   push_cast at h0 ⊢
   rw[PtQ.mk.injEq]
   constructor<;>grind
theorem onQ_0 (p q:Pt):onQ p q 0=p.pq:=by
 unfold onQ Pt.pq;rw[PtQ.mk.injEq]
 constructor<;>grind
theorem onQ_1 (p q:Pt):onQ p q 1=q.pq:=by
 unfold onQ Pt.pq;rw[PtQ.mk.injEq];push_cast
 constructor<;>grind
theorem seg_law {p q:Pt}{lo hi:Int}{a b:aW}{ok:Bool}(h:iZ p q lo hi=(a,b,ok)):
  (bZ p q lo hi).2.2=ok/\(ok=true->(bZ p q lo hi).1=a.pq/\(bZ p q lo hi).2.1=b.pq/\a.rt/\b.rt)/\(ok=false->a=bL/\b=bL):=by
 unfold iZ at h;unfold bZ
 by_cases hb:bY p q lo hi=true
 ·rw[if_pos hb] at h ⊢
  rw[Prod.mk.injEq,Prod.mk.injEq] at h;obtain⟨rfl,rfl,rfl⟩:=h;exact⟨rfl,fun h=>(by cases h),fun _=>⟨rfl,rfl⟩⟩
 ·rw[if_neg hb] at h ⊢
  obtain⟨hle,hp,hq,hl,hh⟩:=gV.1 (by simpa using hb)
  obtain⟨j0,j1,ok1,hs1⟩:∃ j0 j1 ok,gH W0 W1 p.x q.x lo hi false=(j0,j1,ok):=⟨_,_,_,rfl⟩
  obtain⟨k0,k1,ok2,hs2⟩:∃ j0' j1' ok,gH j0 j1 p.y q.y lo hi true=(j0',j1',ok):=⟨_,_,_,rfl⟩
  have z0:W0.val=0:=by
   show ((0:Int):Rat)/((1:Int):Rat)=0;have:((0:Int):Rat)=0:=rfl;rw[this];grind
  have z1:W1.val=1:=by
   show ((1:Int):Rat)/((1:Int):Rat)=1;have:((1:Int):Rat)=1:=rfl;rw[this];grind
  obtain⟨v1,d0,d1,n0,n1⟩:=vJ (by decide) (by decide) hs1;obtain⟨v2,-,-,n2,n3⟩:=vJ d0 d1 hs2;rw[z0,z1] at v1;rw[hs1] at h;dsimp only at h;rw[hs2] at h;dsimp only at h;rw[v1];dsimp only;rw[v2];dsimp only
  cases ok1 with
  |false=>
   rw[if_pos rfl] at h ⊢;rw[Prod.mk.injEq,Prod.mk.injEq] at h;obtain⟨rfl,rfl,rfl⟩:=h;exact⟨rfl,fun h=>(by cases h),fun _=>⟨rfl,rfl⟩⟩
  |true=>
   rw[if_neg (by decide)] at h ⊢
   cases ok2 with
   |false=>
    rw[if_pos rfl] at h ⊢;rw[Prod.mk.injEq,Prod.mk.injEq] at h;obtain⟨rfl,rfl,rfl⟩:=h;exact⟨rfl,fun h=>(by cases h),fun _=>⟨rfl,rfl⟩⟩
   |true=>
    rw[if_neg (by decide)] at h ⊢;rw[Prod.mk.injEq,Prod.mk.injEq] at h;obtain⟨rfl,rfl,rfl⟩:=h;have g1:=sD (up:=false) (WG0 p q lo hi).1 (WG0 p q lo hi).2 hs1;have g2:=sD (up:=true) g1.1 g1.2 hs2
    have e0:k0.en=true->onQ p q k0.val=p.pq:=by
     intro he
     have:k0=W0:=by
      rcases n2 with e|e
      ·rcases n0 with f|f
       ·rw[e,f]
       ·rw[e,f] at he;cases he
      ·rw[e] at he;cases he
     rw[this,z0,onQ_0]
    have e1:k1.en=true->onQ p q k1.val=q.pq:=by
     intro he
     have:k1=W1:=by
      rcases n3 with e|e
      ·rcases n1 with f|f
       ·rw[e,f]
       ·rw[e,f] at he;cases he
      ·rw[e] at he;cases he
     rw[this,z1,onQ_1]
    have s0:=rY g2.1 hp hq hp hl hh e0;have s1:=rY g2.2 hp hq hq hl hh e1;exact⟨rfl,fun _=>⟨s0.1.symm,s1.1.symm,s0.2,s1.2⟩,fun h=>(by cases h)⟩
theorem fr_inj {f g:Fr}(hf:f.right=true)(hg:g.right=true)(h:f.val=g.val):f=g:=by
 obtain⟨-,f1,-,f3,f4⟩:=Fr.right_iff hf;obtain⟨-,g1,-,g3,g4⟩:=Fr.right_iff hg;obtain⟨fq,fr,fd⟩:=f;obtain⟨gq,gr,gd⟩:=g;dsimp only at*;have hfd:(0:Rat)<((fd:Int):Rat):=dD (by omega);have hgd:(0:Rat)<((gd:Int):Rat):=dD (by omega)
 have e1:(((fq*fd+fr)*gd:Int):Rat)=(((gq*gd+gr)*fd:Int):Rat):=by
  unfold Fr.val at h;dsimp only at h;push_cast at hfd hgd ⊢
  grind
 have e:(fq*fd+fr)*(gd:Int)=(gq*gd+gr)*fd:=by exact_mod_cast e1
 have l1:(fr:Int)*gd<fd*gd:=Int.mul_lt_mul_of_pos_right (by omega) (by omega);have l2:(gr:Int)*fd<gd*fd:=Int.mul_lt_mul_of_pos_right (by omega) (by omega);have p1:0<=(fr:Int)*gd:=Int.mul_nonneg (by omega) (by omega);have p2:0<=(gr:Int)*fd:=Int.mul_nonneg (by omega) (by omega);have hD:0<(fd:Int)*gd:=Int.mul_pos (by omega) (by omega);rw[Int.add_mul,Int.add_mul,Int.mul_assoc,Int.mul_assoc,Int.mul_comm (gd:Int) fd] at e;rw[Int.mul_comm (gd:Int) fd] at l2
 have hq:fq=gq:=by
  generalize (fd:Int)*gd=D at*;rcases Int.lt_trichotomy fq gq with h|h|h
  ·have:(fq+1)*D<=gq*D:=Int.mul_le_mul_of_nonneg_right (by omega) (by omega)
   rw[Int.add_mul] at this;omega
  ·exact h
  ·have:(gq+1)*D<=fq*D:=Int.mul_le_mul_of_nonneg_right (by omega) (by omega)
   rw[Int.add_mul] at this;omega
 subst hq
 have er:fr*gd=gr*fd:=by
  have:(fr:Int)*gd=gr*fd:=by omega
  exact_mod_cast this
 have d1:fd ∣ gd:=(Nat.Coprime.symm f4).dvd_of_dvd_mul_left (by rw[er];exact Nat.dvd_mul_left _ _);have d2:gd ∣ fd:=(Nat.Coprime.symm g4).dvd_of_dvd_mul_left (by rw[<-er];exact Nat.dvd_mul_left _ _);obtain rfl:=Nat.dvd_antisymm d1 d2;obtain rfl:=Nat.eq_of_mul_eq_mul_right (by omega) er;rfl
theorem spot_inj {a b:aW}(ha:a.rt)(hb:b.rt)(h:a.pq=b.pq):a=b:=by
 unfold aW.pq at h;rw[PtQ.mk.injEq] at h;have h1:=fr_inj ha.1 hb.1 h.1;have h2:=fr_inj ha.2 hb.2 h.2;obtain⟨x,y⟩:=a;obtain⟨x',y'⟩:=b;dsimp only at h1 h2;rw[h1,h2]
def kK (a b:PtQ):Bool:=decide (a.x=b.x)&&decide (a.y=b.y)
theorem kZ {a b:PtQ}:kK a b=true↔a=b:=by
 unfold kK;rw[Bool.and_eq_true,decide_eq_true_eq,decide_eq_true_eq];obtain⟨x,y⟩:=a;obtain⟨x',y'⟩:=b;rw[PtQ.mk.injEq]
def gK (l:List PtQ)(s:PtQ):List PtQ:=if (l.getLast?.any fun x=>kK x s)=true then l else l++[s]
theorem putS_pq {l:List aW}{s:aW}(hl:∀ x∈l,x.rt)(hs:s.rt):(fV l s).map aW.pq=gK (l.map aW.pq) s.pq:=by
 unfold fV gK;rw[List.getLast?_map]
 cases h:l.getLast? with
 |none=>simp
 |some x=>
  have hx:=hl x (List.mem_of_getLast? h)
  by_cases e:x=s
  ·subst e
   simp[kZ]
  ·rw[if_neg (by simpa using e),if_neg]
   ·simp
   ·simp only[Option.map_some,Option.any_some,kZ]
    exact fun h=>e (spot_inj hx hs h)
abbrev QS:=List (List PtQ)×List PtQ
def flQ (st:QS):QS:=(st.1++(if st.2=[] then[] else[st.2]),[])
def gT (l:List Pt)(lo hi:Int)(part:List PtQ)(k:Nat):List PtQ:=
 match l[k]? with
 |none=>part
 |some p=>
  if k=0 then(if p.inside lo hi=true then[p.pq] else part)
  else match l[k-1]? with
   |none=>part
   |some q=>if (bZ q p lo hi).2.2=true then gK (gK part (bZ q p lo hi).1) (bZ q p lo hi).2.1 else part
def lM (l:List Pt)(lo hi:Int)(st:QS)(k:Nat):QS:=
 match l[k]? with
 |none=>st
 |some p=>if p.inside lo hi=false∨k+1=l.length then flQ (st.1,gT l lo hi st.2 k) else(st.1,gT l lo hi st.2 k)
def bT (l:List Pt)(lo hi:Int)(k:Nat):QS:=(List.range k).foldl (lM l lo hi) ([],[])
theorem eR (l:List Pt)(lo hi:Int)(k:Nat):bT l lo hi (k+1)=lM l lo hi (bT l lo hi k) k:=by
 unfold bT;rw[List.range_succ,List.foldl_append];rfl
def oO (l:List Pt)(lo hi:Int):List (List PtQ):=(bT l lo hi l.length).1
def iD (st:LS):QS:=(st.1.map (List.map aW.pq),st.2.map aW.pq)
def tO (st:LS):Prop:=(∀ part∈st.1,∀ s∈part,s.rt)/\∀ s∈st.2,s.rt
theorem pD (st:LS):iD (iL st)=flQ (iD st):=by
 unfold iL flQ iD;dsimp only
 by_cases h:st.2=[]
 ·rw[if_pos h,if_pos (by rw[h];rfl)];simp
 ·rw[if_neg h,if_neg (by simpa using h)];simp
theorem endS_rt {st:LS}(h:tO st):tO (iL st):=by
 unfold iL tO;refine⟨fun part hp s hs=>?_,fun s hs=>by simp at hs⟩;dsimp only at hp;rcases List.mem_append.1 hp with hp|hp
 ·exact h.1 part hp s hs
 ·split at hp
  ·simp at hp
  ·rw[List.mem_singleton.1 hp] at hs;exact h.2 s hs
theorem endS_endS (st:LS):iL (iL st)=iL st:=by
 unfold iL;simp
theorem putS_rt {l:List aW}{s:aW}(hl:∀ x∈l,x.rt)(hs:s.rt):∀ x∈fV l s,x.rt:=by
 intro x hx;unfold fV at hx
 split at hx
 ·exact hl x hx
 ·rcases List.mem_append.1 hx with hx|hx
  ·exact hl x hx
  ·rw[List.mem_singleton.1 hx];exact hs
theorem segS_pq {st:LS}{p q:Pt}{lo hi:Int}(h:tO st):iD (nM st p q lo hi)=(st.1.map (List.map aW.pq),if (bZ p q lo hi).2.2=true then gK (gK (st.2.map aW.pq) (bZ p q lo hi).1) (bZ p q lo hi).2.1 else st.2.map aW.pq)/\tO (nM st p q lo hi):=by
 obtain⟨a,b,ok,hs⟩:∃ a b ok,iZ p q lo hi=(a,b,ok):=⟨_,_,_,rfl⟩
 obtain⟨e1,e2,-⟩:=seg_law hs;unfold nM;rw[hs,e1]
 cases ok with
 |false=>exact⟨rfl,h⟩
 |true=>
  obtain⟨e3,e4,r1,r2⟩:=e2 rfl;rw[if_pos rfl,if_pos rfl,e3,e4];have k1:=putS_rt h.2 r1;refine⟨?_,h.1,putS_rt k1 r2⟩;unfold iD;dsimp only;rw[putS_pq k1 r2,putS_pq h.2 r1]
theorem tC {p:Pt}(h:p.far=false):(bI p).rt/\(bI p).pq=p.pq:=by
 have:=far_in h;exact⟨⟨bS this.1,bS this.2⟩,by unfold bI aW.pq Pt.pq;dsimp only;rw[dI,dI]⟩
theorem step_pq {l:List Pt}{lo hi:Int}{st:LS}{k:Nat}(hf:∀ p∈l,p.far=false)(h:tO st)(hk:k<l.length)(h0:k=0->st.2=[]):
  tO (mK l lo hi st k)/\iD (if k+1=l.length then iL (mK l lo hi st k) else mK l lo hi st k)=lM l lo hi (iD st) k:=by
 unfold mK lM gT;rw[List.getElem?_eq_getElem hk];dsimp only;generalize hp:l[k]=p;have fp:p.far=false:=hf p (by rw[<-hp];exact List.getElem_mem hk);obtain⟨w1,w2⟩:=tC fp
 by_cases hk0:k=0
 ·simp only[if_pos hk0]
  have e0:=h0 hk0
  cases hin:p.inside lo hi with
  |true=>
   simp only[if_true,Bool.true_eq_false,false_or];have ee:fV st.2 (bI p)=[bI p]:=by rw[e0];rfl
   rw[ee]
   have r1:tO (st.1,[bI p]):=⟨h.1,fun s hs=>by rw[List.mem_singleton.1 hs];exact w1⟩
   refine⟨r1,?_⟩;have m1:iD (st.1,[bI p])=((iD st).1,[p.pq]):=by unfold iD;simp[w2]
   split
   ·rw[pD,m1]
   ·exact m1
  |false=>
   simp only[Bool.false_eq_true,if_false,true_or,if_true];refine⟨h,?_⟩
   have ef:flQ ((iD st).1,(iD st).2)=iD st:=by
    unfold flQ iD;rw[e0];simp
   rw[ef]
   split
   ·rw[pD];exact ef
   ·rfl
 ·simp only[if_neg hk0]
  have hk1:k-1<l.length:=by omega
  rw[List.getElem?_eq_getElem hk1];dsimp only;generalize l[k-1]=q;obtain⟨s1,s2⟩:=segS_pq (p:=q) (q:=p) (lo:=lo) (hi:=hi) h
  cases hin:p.inside lo hi with
  |true=>
   simp only[if_true,Bool.true_eq_false,false_or];refine⟨s2,?_⟩
   split
   ·rw[pD,s1];rfl
   ·rw[s1];rfl
  |false=>
   simp only[Bool.false_eq_true,if_false,true_or,if_true];refine⟨endS_rt s2,?_⟩;rw[endS_endS,ite_self,pD,s1];rfl
theorem sW {l:List Pt}{lo hi:Int}(hf:∀ p∈l,p.far=false):∀ k,k<l.length->tO (cX l lo hi k)/\iD (cX l lo hi k)=bT l lo hi k
 |0,_=>⟨⟨fun p h=>by simp[cX] at h,fun s h=>by simp[cX] at h⟩,rfl⟩
 |k+1,hk=>by
  obtain⟨h1,h2⟩:=sW (lo:=lo) (hi:=hi) hf k (by omega);have:=step_pq hf h1 (lo:=lo) (hi:=hi) (by omega:k<l.length) (fun e=>by subst e;rfl);rw[if_neg (by omega)] at this;rw[gN,eR,<-h2];exact this
theorem nG {l:List Pt}{lo hi:Int}(he:cY l lo hi=0):(cZ l lo hi).map (List.map aW.pq)=oO l lo hi/\∀ part∈cZ l lo hi,∀ s∈part,s.rt:=by
 obtain⟨-,-,-,hf⟩:=lX.1 he;unfold cZ;rw[if_pos he];unfold sY oO
 by_cases h0:l.length=0
 ·rw[h0]
  exact⟨rfl,fun p h=>by simp[cX,iL] at h⟩
 ·obtain⟨n,hn⟩:∃ n,l.length=n+1:=⟨l.length-1,by omega⟩
  obtain⟨h1,h2⟩:=sW (lo:=lo) (hi:=hi) hf n (by omega);have:=step_pq hf h1 (lo:=lo) (hi:=hi) (by omega:n<l.length) (fun e=>by subst e;rfl);rw[if_pos (by omega)] at this;rw[hn,gN,eR,<-h2,<-this.2];exact⟨rfl,(endS_rt this.1).1⟩
theorem sC (a b:Rat)(p q lo hi:Int):bN (1-b) (1-a) q p lo hi=(1-(bN a b p q lo hi).2.1,1-(bN a b p q lo hi).1,(bN a b p q lo hi).2.2):=by
 unfold bN
 by_cases h:p=q
 ·subst h
  rw[if_pos rfl,if_pos rfl]
 ·rw[if_neg (fun e=>h e.symm),if_neg h]
  have hd:((q-p:Int):Rat)≠0:=by exact_mod_cast (show q-p≠0 by omega)
  have hX:cO q p lo hi=1-cN p q lo hi:=by
   unfold cO cN
   by_cases hc:q<p
   ·rw[if_neg (by omega),if_pos hc]
    push_cast at hd ⊢
    grind
   ·rw[if_pos (by omega),if_neg hc]
    push_cast at hd ⊢
    grind
  have hY:cN q p lo hi=1-cO p q lo hi:=by
   unfold cO cN
   by_cases hc:q<p
   ·rw[if_neg (by omega),if_pos hc]
    push_cast at hd ⊢
    grind
   ·rw[if_pos (by omega),if_neg hc]
    push_cast at hd ⊢
    grind
  rw[hX,hY];generalize cO p q lo hi=x;generalize cN p q lo hi=y
  have e1:(if 1-b<1-y then 1-y else 1-b)=1-(if y<b then y else b):=by
   by_cases hc:y<b
   ·rw[if_pos hc,if_pos (by grind)]
   ·rw[if_neg hc,if_neg (by grind)]
  have e2:(if 1-x<1-a then 1-x else 1-a)=1-(if a<x then x else a):=by
   by_cases hc:a<x
   ·rw[if_pos hc,if_pos (by grind)]
   ·rw[if_neg hc,if_neg (by grind)]
  rw[e1,e2];generalize (if y<b then y else b)=u;generalize (if a<x then x else a)=v;refine Prod.ext rfl (Prod.ext rfl ?_);show decide (1-u<=1-v)=decide (v<=u);rw[decide_eq_decide]
  constructor<;>intro h<;>grind
theorem wI (p q:Pt)(t:Rat):onQ q p (1-t)=onQ p q t:=by
 unfold onQ;rw[PtQ.mk.injEq];push_cast
 constructor<;>grind
theorem oF (p q:Pt)(lo hi:Int):bY q p lo hi=bY p q lo hi:=by
 have key:∀ p q:Pt,bY p q lo hi=false->bY q p lo hi=false:=fun p q h=>by
  obtain⟨h1,h2,h3,h4,h5⟩:=gV.1 h;exact gV.2 ⟨h1,h3,h2,h4,h5⟩
 cases h1:bY p q lo hi with
 |false=>exact key _ _ h1
 |true=>
  cases h2:bY q p lo hi with
  |false=>rw[key _ _ h2] at h1;cases h1
  |true=>rfl
theorem pQ (a b:Rat)(p lo hi:Int):bN a b p p lo hi=(a,b,decide (lo<=p)&&decide (p<=hi)):=by unfold bN;rw[if_pos rfl]
theorem pP {a b:Rat}{p q lo hi:Int}(h:p≠q):bN a b p q lo hi=(if a<cO p q lo hi then cO p q lo hi else a,if cN p q lo hi<b then cN p q lo hi else b,decide ((if a<cO p q lo hi then cO p q lo hi else a)<=(if cN p q lo hi<b then cN p q lo hi else b))):=by unfold bN;rw[if_neg h]
theorem seg_turn (p q:Pt)(lo hi:Int):bZ q p lo hi=((bZ p q lo hi).2.1,(bZ p q lo hi).1,(bZ p q lo hi).2.2):=by
 unfold bZ;rw[oF];have h01:((0:Rat)=1-1)/\((1:Rat)=1-0):=by constructor<;>grind
 have t1:=sC 0 1 p.x q.x lo hi;rw[<-h01.1,<-h01.2] at t1;rw[t1];dsimp only;have t2:=sC (bN 0 1 p.x q.x lo hi).1 (bN 0 1 p.x q.x lo hi).2.1 p.y q.y lo hi;rw[t2];dsimp only
 by_cases hb:bY p q lo hi=true
 ·simp only[if_pos hb]
 ·simp only[if_neg hb]
  by_cases h1:(bN 0 1 p.x q.x lo hi).2.2=false
  ·simp only[if_pos h1]
  ·simp only[if_neg h1]
   split
   ·rfl
   ·rw[wI,wI]
theorem tK {a b:Rat}{p q lo hi:Int}(hab:(bN a b p q lo hi).2.2=true)(t:Rat)(h1:(bN a b p q lo hi).1<=t)(h2:t<=(bN a b p q lo hi).2.1):
  a<=t/\t<=b/\(lo:Rat)<=(p:Rat)+((q-p:Int):Rat)*t/\(p:Rat)+((q-p:Int):Rat)*t<=(hi:Rat):=by
 by_cases h:p=q
 ·subst h
  rw[pQ] at hab h1 h2;simp only[Bool.and_eq_true,decide_eq_true_eq] at hab h1 h2;have e1:(lo:Rat)<=p:=by exact_mod_cast hab.1
  have e2:(p:Rat)<=hi:=by exact_mod_cast hab.2
  have e3:((p-p:Int):Rat)=0:=by rw[Int.sub_self];rfl
  rw[e3];refine⟨h1,h2,by grind,by grind⟩
 ·rw[pP h] at h1 h2 hab
  dsimp only at h1 h2 hab;have k1:a<=t/\cO p q lo hi<=t:=by split at h1<;>constructor<;>grind
  have k2:t<=b/\t<=cN p q lo hi:=by split at h2<;>constructor<;>grind
  refine⟨k1.1,k2.1,?_⟩;have k3:=k1.2;have k4:=k2.2;clear hab h1 h2 k1 k2;unfold cO at k3;unfold cN at k4
  by_cases hc:q<p
  ·rw[if_pos hc] at k3 k4
   have hd:(0:Rat)<((p:Rat)-q):=by
    have:((q:Int):Rat)<p:=by exact_mod_cast hc
    grind
   push_cast at k3 k4 ⊢
   have e3:((hi:Rat)-p)/((q:Rat)-p)*((p:Rat)-q)=(p:Rat)-hi:=by grind
   have e4:((lo:Rat)-p)/((q:Rat)-p)*((p:Rat)-q)=(p:Rat)-lo:=by grind
   have m3:=Rat.mul_nonneg (show 0<=t-((hi:Rat)-p)/((q:Rat)-p) by grind) (show 0<=(p:Rat)-q by grind);have m4:=Rat.mul_nonneg (show 0<=((lo:Rat)-p)/((q:Rat)-p)-t by grind) (show 0<=(p:Rat)-q by grind);generalize ((hi:Rat)-p)/((q:Rat)-p)=X at*;generalize ((lo:Rat)-p)/((q:Rat)-p)=Y at*
   constructor<;>grind
  ·rw[if_neg hc] at k3 k4
   have hd:(0:Rat)<((q:Rat)-p):=by
    have:((p:Int):Rat)<q:=by exact_mod_cast (show p<q by omega)
    grind
   push_cast at k3 k4 ⊢
   have e3:((lo:Rat)-p)/((q:Rat)-p)*((q:Rat)-p)=(lo:Rat)-p:=by grind
   have e4:((hi:Rat)-p)/((q:Rat)-p)*((q:Rat)-p)=(hi:Rat)-p:=by grind
   have m3:=Rat.mul_nonneg (show 0<=t-((lo:Rat)-p)/((q:Rat)-p) by grind) (show 0<=(q:Rat)-p by grind);have m4:=Rat.mul_nonneg (show 0<=((hi:Rat)-p)/((q:Rat)-p)-t by grind) (show 0<=(q:Rat)-p by grind);generalize ((lo:Rat)-p)/((q:Rat)-p)=X at*;generalize ((hi:Rat)-p)/((q:Rat)-p)=Y at*
   constructor<;>grind
def InW (lo hi:Int)(q:PtQ):Prop:=(lo:Rat)<=q.x/\q.x<=(hi:Rat)/\(lo:Rat)<=q.y/\q.y<=(hi:Rat)
theorem slab_le {a b:Rat}{p q lo hi:Int}(h:a<=b)(hok:(bN a b p q lo hi).2.2=true):(bN a b p q lo hi).1<=(bN a b p q lo hi).2.1:=by
 by_cases e:p=q
 ·subst e
  rw[pQ];exact h
 ·rw[pP e] at hok ⊢
  exact of_decide_eq_true hok
theorem seg_in {p q:Pt}{lo hi:Int}(h:(bZ p q lo hi).2.2=true):InW lo hi (bZ p q lo hi).1/\InW lo hi (bZ p q lo hi).2.1:=by
 unfold bZ at*
 by_cases hb:bY p q lo hi=true
 ·simp[if_pos hb] at h
 ·simp only[if_neg hb] at h ⊢
  by_cases h1:(bN 0 1 p.x q.x lo hi).2.2=false
  ·simp[if_pos h1] at h
  ·simp only[if_neg h1] at h ⊢
   split at h
   ·simp at h
   ·rename_i h2
    simp only[if_neg h2];have h1:(bN 0 1 p.x q.x lo hi).2.2=true:=by simpa using h1
    have h2:(bN (bN 0 1 p.x q.x lo hi).1 (bN 0 1 p.x q.x lo hi).2.1 p.y q.y lo hi).2.2=true:=by simpa using h2
    have l1:=slab_le (show (0:Rat)<=1 by decide) h1;have l2:=slab_le l1 h2;have r:=fun t u v=>tK h2 t u v
    have a1:=r _ Rat.le_refl l2;have a2:=r _ l2 Rat.le_refl;have b1:=tK h1 _ a1.1 a1.2.1;have b2:=tK h1 _ a2.1 a2.2.1;exact⟨⟨b1.2.2.1,b1.2.2.2,a1.2.2.1,a1.2.2.2⟩,⟨b2.2.2.1,b2.2.2.2,a2.2.2.1,a2.2.2.2⟩⟩
theorem sF {b:Rat}{p q lo hi:Int}(h0:0<=b)(h1:lo<=p)(h2:p<=hi):(bN 0 b p q lo hi).1=0/\(bN 0 b p q lo hi).2.2=true/\0<=(bN 0 b p q lo hi).2.1:=by
 by_cases e:p=q
 ·subst e
  rw[pQ];exact⟨rfl,by simp[h1,h2],h0⟩
 ·rw[pP e]
  have hx:cO p q lo hi<=0:=by
   unfold cO
   by_cases hc:q<p
   ·rw[if_pos hc]
    have hd:((q-p:Int):Rat)<0:=by exact_mod_cast (show q-p<0 by omega)
    have hn:(0:Rat)<=((hi-p:Int):Rat):=by exact_mod_cast (show 0<=hi-p by omega)
    have he:((hi-p:Int):Rat)/((q-p:Int):Rat)*((q-p:Int):Rat)=((hi-p:Int):Rat):=by grind
    generalize ((hi-p:Int):Rat)/((q-p:Int):Rat)=X at*;rw[<-Rat.not_lt];intro hh;have:=Rat.mul_pos hh (show 0< -((q-p:Int):Rat) by grind);grind
   ·rw[if_neg hc]
    have hd:0<((q-p:Int):Rat):=by exact_mod_cast (show 0<q-p by omega)
    have hn:((lo-p:Int):Rat)<=0:=by exact_mod_cast (show lo-p<=0 by omega)
    have he:((lo-p:Int):Rat)/((q-p:Int):Rat)*((q-p:Int):Rat)=((lo-p:Int):Rat):=by grind
    generalize ((lo-p:Int):Rat)/((q-p:Int):Rat)=X at*;rw[<-Rat.not_lt];intro hh;have:=Rat.mul_pos hh hd;grind
  have hy:0<=cN p q lo hi:=by
   unfold cN
   by_cases hc:q<p
   ·rw[if_pos hc]
    have hd:((q-p:Int):Rat)<0:=by exact_mod_cast (show q-p<0 by omega)
    have hn:((lo-p:Int):Rat)<=0:=by exact_mod_cast (show lo-p<=0 by omega)
    have he:((lo-p:Int):Rat)/((q-p:Int):Rat)*((q-p:Int):Rat)=((lo-p:Int):Rat):=by grind
    generalize ((lo-p:Int):Rat)/((q-p:Int):Rat)=X at*;rw[<-Rat.not_lt];intro hh;have:=Rat.mul_pos (show 0< -X by grind) (show 0< -((q-p:Int):Rat) by grind);grind
   ·rw[if_neg hc]
    have hd:0<((q-p:Int):Rat):=by exact_mod_cast (show 0<q-p by omega)
    have hn:(0:Rat)<=((hi-p:Int):Rat):=by exact_mod_cast (show 0<=hi-p by omega)
    have he:((hi-p:Int):Rat)/((q-p:Int):Rat)*((q-p:Int):Rat)=((hi-p:Int):Rat):=by grind
    generalize ((hi-p:Int):Rat)/((q-p:Int):Rat)=X at*;rw[<-Rat.not_lt];intro hh;have:=Rat.mul_pos (show 0< -X by grind) hd;grind
  have e1:(if (0:Rat)<cO p q lo hi then cO p q lo hi else 0)=0:=if_neg (by grind);rw[e1];have e2:0<=(if cN p q lo hi<b then cN p q lo hi else b):=by split<;>assumption
  exact⟨rfl,decide_eq_true e2,e2⟩
theorem seg_from {p q:Pt}{lo hi:Int}(hb:bY p q lo hi=false)(hp:p.inside lo hi=true):(bZ p q lo hi).2.2=true/\(bZ p q lo hi).1=p.pq:=by
 simp only[Pt.inside,Bool.and_eq_true,decide_eq_true_eq] at hp;obtain⟨⟨⟨p1,p2⟩,p3⟩,p4⟩:=hp;obtain⟨x1,x2,x3⟩:=sF (b:=1) (q:=q.x) (by decide) p1 p2;obtain⟨y1,y2,-⟩:=sF (b:=(bN 0 1 p.x q.x lo hi).2.1) (q:=q.y) x3 p3 p4;unfold bZ;rw[if_neg (by rw[hb];decide),if_neg (by rw[x2];decide),x1,if_neg (by rw[y2];decide),y1,onQ_0];exact⟨rfl,rfl⟩
theorem seg_to {p q:Pt}{lo hi:Int}(hb:bY p q lo hi=false)(hq:q.inside lo hi=true):(bZ p q lo hi).2.2=true/\(bZ p q lo hi).2.1=q.pq:=by
 have:=seg_from (p:=q) (q:=p) (by rw[oF];exact hb) hq;rw[seg_turn] at this;exact this
def kJ (lo hi:Int)(p:Pt):List (Option PtQ):=if p.inside lo hi=true then[some p.pq] else[none]
def nK (lo hi:Int)(p q:Pt):List (Option PtQ):=if (bZ p q lo hi).2.2=true then[some (bZ p q lo hi).1,some (bZ p q lo hi).2.1] else[]
def tok (lo hi:Int):List Pt->List (Option PtQ)
 |[]=>[]
 |[p]=>kJ lo hi p
 |p::q::l=>kJ lo hi p++(nK lo hi p q++tok lo hi (q::l))
theorem vF (lo hi:Int)(p q:Pt):∀ l:List Pt,tok lo hi (l++[p,q])=tok lo hi (l++[p])++(nK lo hi p q++kJ lo hi q)
 |[]=>rfl
 |[a]=>by
  show kJ lo hi a++(nK lo hi a p++(kJ lo hi p++(nK lo hi p q++kJ lo hi q)))=(kJ lo hi a++(nK lo hi a p++kJ lo hi p))++_;simp only[List.append_assoc]
 |a::b::l=>by
  show kJ lo hi a++(nK lo hi a b++tok lo hi ((b::l)++[p,q]))=(kJ lo hi a++(nK lo hi a b++tok lo hi ((b::l)++[p])))++_;rw[vF lo hi p q (b::l)];simp only[List.append_assoc]
def vG (st:QS):Option PtQ->QS
 |some x=>(st.1,gK st.2 x)
 |none=>flQ st
theorem putQ_last (l:List PtQ)(x:PtQ):(gK l x).getLast? =some x:=by
 unfold gK
 split
 ·rename_i h
  cases hl:l.getLast? with
  |none=>rw[hl] at h;simp at h
  |some y=>
   rw[hl] at h;rw[Option.any_some,kZ] at h;rw[h]
 ·simp
theorem putQ_put {l:List PtQ}{x:PtQ}(h:l.getLast? =some x):gK l x=l:=by
 unfold gK;rw[h,Option.any_some,if_pos (kZ.2 rfl)]
theorem flQ_fl (st:QS):flQ (flQ st)=flQ st:=by
 unfold flQ;simp
theorem rU {l:List Pt}{lo hi:Int}(hf:∀ p∈l,∀ q∈l,bY p q lo hi=false){k:Nat}(hk:k<l.length)(st:QS)(h0:k=0->st=([],[])):
  ∃ ts,tok lo hi (l.take (k+1))=tok lo hi (l.take k)++ts/\lM l lo hi st k=if k+1=l.length then flQ (ts.foldl vG st) else ts.foldl vG st:=by
 have e1:=List.take_succ_eq_append_getElem hk;unfold lM gT;rw[List.getElem?_eq_getElem hk];dsimp only
 by_cases hk0:k=0
 ·subst hk0
  refine⟨kJ lo hi l[0],by rw[e1];rfl,?_⟩;rw[h0 rfl,if_pos rfl];unfold kJ
  cases hin:l[0].inside lo hi with
  |true=>
   simp only[if_true,Bool.true_eq_false,false_or];rfl
  |false=>
   simp only[Bool.false_eq_true,if_false,true_or,if_true]
   split<;>rfl
 ·have hk1:k-1<l.length:=by omega
  have e2:l.take k=l.take (k-1)++[l[k-1]]:=by
   have:=List.take_succ_eq_append_getElem hk1
   rwa[show k-1+1=k by omega] at this
  refine⟨nK lo hi l[k-1] l[k]++kJ lo hi l[k],?_,?_⟩
  ·rw[e1,e2,List.append_assoc]
   exact vF lo hi _ _ _
  ·rw[if_neg hk0,List.getElem?_eq_getElem hk1,List.foldl_append]
   dsimp only;have hsb:=hf _ (List.getElem_mem hk1) _ (List.getElem_mem hk)
   have hst:List.foldl vG st (nK lo hi l[k-1] l[k])=(st.1,if (bZ l[k-1] l[k] lo hi).2.2=true then gK (gK st.2 (bZ l[k-1] l[k] lo hi).1) (bZ l[k-1] l[k] lo hi).2.1 else st.2):=by
    unfold nK
    split<;>rfl
   rw[hst];unfold kJ
   cases hin:l[k].inside lo hi with
   |true=>
    obtain⟨s1,s2⟩:=seg_to hsb hin;simp only[if_true,Bool.true_eq_false,false_or,s1]
    have:List.foldl vG (st.1,gK (gK st.2 (bZ l[k-1] l[k] lo hi).1) (bZ l[k-1] l[k] lo hi).2.1) [some l[k].pq]=(st.1,gK (gK st.2 (bZ l[k-1] l[k] lo hi).1) (bZ l[k-1] l[k] lo hi).2.1):=by
     show (st.1,gK _ _)=_;rw[putQ_put];rw[<-s2];exact putQ_last _ _
    rw[this]
   |false=>
    simp only[Bool.false_eq_true,if_false,true_or,if_true];show _=if _ then flQ (flQ _) else flQ _;rw[flQ_fl,ite_self]
def runT (ts:List (Option PtQ)):List (List PtQ):=(flQ (ts.foldl vG ([],[]))).1
theorem clip_tok {l:List Pt}{lo hi:Int}(hf:∀ p∈l,∀ q∈l,bY p q lo hi=false):oO l lo hi=runT (tok lo hi l):=by
 have key:∀ k,k<l.length->bT l lo hi k=(tok lo hi (l.take k)).foldl vG ([],[]):=by
  intro k
  induction k with
  |zero=>intro _;rfl
  |succ k ih=>
   intro hk;obtain⟨ts,h1,h2⟩:=rU hf (show k<l.length by omega) (bT l lo hi k) (by rintro rfl;rfl);rw[if_neg (by omega)] at h2;rw[eR,h2,h1,List.foldl_append,ih (by omega)]
 unfold oO runT
 by_cases h0:l.length=0
 ·rw[List.eq_nil_of_length_eq_zero h0]
  rfl
 ·obtain⟨n,hn⟩:∃ n,l.length=n+1:=⟨l.length-1,by omega⟩
  obtain⟨ts,h1,h2⟩:=rU hf (show n<l.length by omega) (bT l lo hi n) (by rintro rfl;rfl);rw[if_pos (by omega)] at h2;rw[hn,eR,h2,key n (by omega),<-List.foldl_append,<-h1,<-hn,List.take_length]
theorem runT_mem {P:PtQ->Prop}:∀ (ts:List (Option PtQ)),(∀ x,some x∈ts->P x)->∀ part∈runT ts,∀ x∈part,P x:=by
 have put:∀ (l:List PtQ) (y:PtQ),(∀ x∈l,P x)->P y->∀ x∈gK l y,P x:=by
  intro l y hl hy x hx;unfold gK at hx
  split at hx
  ·exact hl x hx
  ·rcases List.mem_append.1 hx with h|h
   ·exact hl x h
   ·rw[List.mem_singleton.1 h];exact hy
 have fl:∀ st:QS,(∀ part∈st.1,∀ x∈part,P x)/\(∀ x∈st.2,P x)->(∀ part∈(flQ st).1,∀ x∈part,P x)/\(∀ x∈(flQ st).2,P x):=by
  intro st h;refine⟨fun part hp x hx=>?_,fun x hx=>by simp[flQ] at hx⟩;unfold flQ at hp;dsimp only at hp;rcases List.mem_append.1 hp with hp|hp
  ·exact h.1 part hp x hx
  ·split at hp
   ·simp at hp
   ·rw[List.mem_singleton.1 hp] at hx;exact h.2 x hx
 have key:∀ (ts:List (Option PtQ)) (st:QS),(∀ x,some x∈ts->P x)->(∀ part∈st.1,∀ x∈part,P x)/\(∀ x∈st.2,P x)->(∀ part∈(ts.foldl vG st).1,∀ x∈part,P x)/\(∀ x∈(ts.foldl vG st).2,P x):=by
  intro ts
  induction ts with
  |nil=>intro st _ h;exact h
  |cons t ts ih=>
   intro st hts h;refine ih _ (fun x hx=>hts x (by simp[hx])) ?_
   cases t with
   |none=>exact fl st h
   |some y=>exact⟨h.1,put st.2 y h.2 (hts y (by simp))⟩
 intro ts hts;exact(fl _ (key ts ([],[]) hts ⟨fun p h=>by simp at h,fun x h=>by simp at h⟩)).1
theorem tok_in (lo hi:Int):∀ (l:List Pt) (x:PtQ),some x∈tok lo hi l->InW lo hi x:=by
 have hv:∀ (p:Pt) (x:PtQ),some x∈kJ lo hi p->InW lo hi x:=by
  intro p x hx;unfold kJ at hx
  split at hx
  ·rename_i hp
   rw[List.mem_singleton,Option.some.injEq] at hx;rw[hx];simp only[Pt.inside,Bool.and_eq_true,decide_eq_true_eq] at hp;obtain⟨⟨⟨p1,p2⟩,p3⟩,p4⟩:=hp;exact⟨by show (lo:Rat)<=(p.x:Rat);exact_mod_cast p1,by show (p.x:Rat)<=(hi:Rat);exact_mod_cast p2,by show (lo:Rat)<=(p.y:Rat);exact_mod_cast p3,by show (p.y:Rat)<=(hi:Rat);exact_mod_cast p4⟩
  ·simp at hx
 have he:∀ (p q:Pt) (x:PtQ),some x∈nK lo hi p q->InW lo hi x:=by
  intro p q x hx;unfold nK at hx
  split at hx
  ·rename_i h
   have:=seg_in h;simp only[List.mem_cons,Option.some.injEq,List.not_mem_nil,or_false] at hx;rcases hx with rfl|rfl
   ·exact this.1
   ·exact this.2
  ·simp at hx
 intro l
 induction l with
 |nil=>intro x hx;simp[tok] at hx
 |cons p l ih=>
  intro x hx
  cases l with
  |nil=>exact hv p x hx
  |cons q l=>
   rcases List.mem_append.1 (show some x∈kJ lo hi p++(nK lo hi p q++tok lo hi (q::l)) from hx) with h|h
   ·exact hv p x h
   ·rcases List.mem_append.1 h with h|h
    ·exact he p q x h
    ·exact ih x h
theorem lineE_seg {l:List Pt}{lo hi:Int}(he:cY l lo hi=0):∀ p∈l,∀ q∈l,bY p q lo hi=false:=by
 obtain⟨h1,h2,h3,h4⟩:=lX.1 he;intro p hp q hq;exact gV.2 ⟨h1,h4 p hp,h4 q hq,by assumption,by assumption⟩
theorem whole_in {l:List Pt}{lo hi:Int}(he:cY l lo hi=0):∀ part∈cZ l lo hi,∀ s∈part,s.rt/\InW lo hi s.pq:=by
 obtain⟨v1,r1⟩:=nG he;intro part hp s hs;refine⟨r1 part hp s hs,?_⟩;rw[clip_tok (lineE_seg he)] at v1;refine runT_mem (tok lo hi l) (tok_in lo hi l) (part.map aW.pq) ?_ _ (List.mem_map_of_mem hs);rw[<-v1];exact List.mem_map_of_mem hp
end Go.Proofs.YtjalimkajcjapaaGreatDoor
