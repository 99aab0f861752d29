import Derived.Test.YtjalimkajcjapaaGreatDoorRngB
import Derived.Test.YtjalimkajcjapaaGreatDoorSimpA
namespace Go.Proofs.YtjalimkajcjapaaGreatDoor
set_option maxRecDepth 100000
open Go.RowKit
structure aI where
 v:Value
 l:List Pt
def aI.rd (w:World)(S:Nat->Prop)(r:aI):Prop:=Rd w S 2 r.v r.l.length (Pts r.l)
theorem bH {w W:World}{S:Nat->Prop}{v:Value}{xs:List Value}{n i b o c:Nat}(hW:aB w W)(h:Rd w S 1 v n xs)(hv:v=.slice (some ⟨b,o,none⟩) n c)(hi:i<xs.length):W.cell? ⟨b,o+i,none⟩=some xs[i]:=by
 obtain⟨hl,A,c',rfl,h1,h2,h3,h4⟩:=h;injection hv with hA _ _
 subst hA;obtain⟨b',o',hA,_,hc⟩:=h4 (by omega);injection hA with hA
 injection hA with e1 e2
 subst e1 e2;have:=hc i xs[i] (List.getElem?_eq_getElem hi);exact(hW.cell (World.block_lt_of_cell? w _ this)).trans this
end Go.Proofs.YtjalimkajcjapaaGreatDoor
namespace Go.Proofs.YtjalimkajcjapaaGreatDoor
set_option maxRecDepth 100000
open Go.RowKit
set_option maxHeartbeats 4000000 in
theorem yH (a b:Value)(A B:List aI)(S T S' T':Nat->Prop)(w:World)(ha:Rd w S 1 a A.length (A.map aI.v))(hA:∀ r∈A,r.rd w S')(hb:Rd w T 1 b B.length (B.map aI.v))(hB:∀ r∈B,r.rd w T'){R:Ending->World->Prop}
  (hR:∀ w',aB w w'->R (.returned (.bool (decide (A.map aI.l=B.map aI.l)))) w'):
  Calls Tryz.prog 45 #[a,b] w R:=by
 have HR:=Lh hR;clear hR;have HA0:=Lh ha;have HB0:=Lh hb;obtain⟨_,A0,c,rfl,h1,h2,h3,h4⟩:=ha;obtain⟨_,B0,d,rfl,k1,k2,k3,k4⟩:=hb;have HA:=Lh hA;have HB:=Lh hB;unfold maxLen at h2 k2;clear hA hB
 by_cases hl:A.length=B.length
 ·have heq:((A.length:Int) != B.length)=false:=by simp;omega
  have HLE:=Lh hl;clear hl;go_enter Tryz.func45,Tryz.ntmps45
  go_wp2;clear heq
  go_loopw [5] (fun i wr=>∃ k n:Nat,k<=A.length/\i=.int .i64 k/\wr=w.drewN n/\Hid ((A.map aI.l).take k=(B.map aI.l).take k)) (fun i _=>A.length-(intOf i).toNat)
  case atStart=>exact⟨0,0,Nat.zero_le _,rfl,rfl,rfl⟩
  case round=>
   obtain⟨k,n,hk,rfl,rfl,ht⟩:=hrel
   by_cases hlt:k<A.length
   ·have hlt2:k<B.length:=by rw[<-HLE.out];exact hlt
    obtain⟨b1,o1,rfl,-,-⟩:=h4 (by omega);obtain⟨b2,o2,rfl,-,-⟩:=k4 (by omega)
    have c1:w.cell? ⟨b1,o1+k,none⟩=some (A[k]'hlt).v:=by
     have:=bH (aB.refl w) HA0.out rfl (i:=k) (by simpa using hlt);rw[List.getElem_map] at this;exact this
    have c2:w.cell? ⟨b2,o2+k,none⟩=some (B[k]'hlt2).v:=by
     have:=bH (aB.refl w) HB0.out rfl (i:=k) (by simpa using hlt2);rw[List.getElem_map] at this;exact this
    have r1:=HA.out (A[k]'hlt) (List.getElem_mem hlt);have r2:=HB.out (B[k]'hlt2) (List.getElem_mem hlt2)
    have YES:Hid ((A[k]'hlt).l=(B[k]'hlt2).l->(A.map aI.l).take (k+1)=(B.map aI.l).take (k+1)):=by
     intro h;exact mJ (by simpa using hlt) (by simpa using hlt2) ht.out (by simpa using h)
    have NO:Hid (¬ (A[k]'hlt).l=(B[k]'hlt2).l->decide (A.map aI.l=B.map aI.l)=false):=by
     intro h;refine decide_eq_false fun e=>h ?_
     have e1:(A.map aI.l)[k]? =(B.map aI.l)[k]? :=by rw[e]
     simpa [hlt,hlt2] using e1
    clear h3 h4 k3 k4 ht;generalize A[k]'hlt=ra at*;generalize B[k]'hlt2=rb at*;obtain⟨v1,l1⟩:=ra;obtain⟨v2,l2⟩:=rb;unfold aI.rd at r1 r2;dsimp only at*;have r1:=r1.lt (by decide);have r2:=r2.lt (by decide);obtain⟨_,X,cx,rfl,x1,x2,x3,x4⟩:=r1;obtain⟨_,Y,cy,rfl,y1,y2,y3,y4⟩:=r2;unfold maxLen at x2 y2
    by_cases hll:l1.length=l2.length
    ·have t0:((l1.length:Int) != l2.length)=false:=by simp;omega
     have HLL:=Lh hll;clear hll;go_wp2
     go_quiet (fail)
     go_wp2;clear t0
     go_loopw [6] (fun i wz=>∃ j n:Nat,j<=l1.length/\i=.int .i64 j/\wz=w.drewN n/\Hid (l1.take j=l2.take j)) (fun i _=>l1.length-(intOf i).toNat)
     case atStart=>exact⟨0,_,Nat.zero_le _,rfl,World.drewN_drewN _ _ _,rfl⟩
     case round=>
      obtain⟨j,n',hj,rfl,rfl,ht⟩:=hrel
      by_cases hjl:j<l1.length
      ·have hjl2:j<l2.length:=by rw[<-HLL.out];exact hjl
       obtain⟨b3,o3,rfl,hb3,hc3⟩:=x4 (by omega);obtain⟨b4,o4,rfl,hb4,hc4⟩:=y4 (by omega);have e1:=aL Pt.cells_len (aB.refl w) hb3 hc3 hjl;have e2:=aL Pt.cells_len (aB.refl w) hb4 hc4 hjl2;clear hc3 hc4 x4 x3 y4 y3;generalize hx:l1[j]=x at*;generalize hy:l2[j]=y at*;obtain⟨p1,p2⟩:=x;obtain⟨q1,q2⟩:=y;have d1:=e1 0 _ rfl;have d2:=e1 1 _ rfl;have d3:=e2 0 _ rfl;have d4:=e2 1 _ rfl;simp only[Nat.add_zero] at d1 d3;clear e1 e2;have Hx:=Lh hx;have Hy:=Lh hy;clear hx hy
       have no:Hid (¬ (p1=q1/\p2=q2)->decide (A.map aI.l=B.map aI.l)=false):=by
        intro h;refine NO.out ?_;rintro rfl;have:=Hx.out.symm.trans Hy.out;simp only[Pt.mk.injEq] at this;exact h this
       have yes:Hid (p1=q1/\p2=q2->l1.take (j+1)=l2.take (j+1)):=by
        rintro⟨rfl,rfl⟩;exact mJ hjl hjl2 ht.out (Hx.out.trans Hy.out.symm)
       cases t1:(p1 != q1)
       ·cases t2:(p2 != q2)
        ·have E1:p1=q1:=by simpa using t1
         have E2:p2=q2:=by simpa using t2
         subst E1 E2;clear t1 t2;go_wp2
         go_quiet (fail)
         go_wp2;go_roundw
         case rel=>exact⟨j+1,_,by omega,by go_num,rfl,yes.out (by simp)⟩
         case measure=>simp[intOf];omega
        ·have E1:p1=q1:=by simpa using t1
         subst E1;have t3:(p2==q2)=false:=by simpa using t2
         have hno:Hid (decide (A.map aI.l=B.map aI.l)=false):=no.out (by rintro⟨_,rfl⟩;simp at t2);clear t1;go_wp2
         go_quiet (fail)
         go_wp2;have h:=HR.out;rw[hno.out] at h;exact h _ (((aB.refl w).dn _).tr ((aB.refl _).dn _))
       ·have t3:(p1==q1)=false:=by simpa using t1
        have hno:Hid (decide (A.map aI.l=B.map aI.l)=false):=no.out (by rintro⟨rfl,_⟩;simp at t1);go_wp2
        go_quiet (fail)
        go_wp2;have h:=HR.out;rw[hno.out] at h;exact h _ (((aB.refl w).dn _).tr ((aB.refl _).dn _))
      ·obtain rfl:j=l1.length:=by omega
       have hxy:l1=l2:=by
        have:=ht.out;rw[List.take_length,HLL.out,List.take_length] at this;exact this
       have Hxy:=Lh hxy;clear hxy;go_wp2;go_roundw
       case rel=>exact⟨k+1,_,by omega,by go_num,rfl,YES.out Hxy.out⟩
       case measure=>simp[intOf];omega
    ·have t0:((l1.length:Int) != l2.length)=true:=by simp;omega
     have hno:Hid (decide (A.map aI.l=B.map aI.l)=false):=NO.out (by rintro rfl;exact hll rfl);go_wp2
     go_quiet (fail)
     go_wp2;have h:=HR.out;rw[hno.out] at h;exact h _ (((aB.refl w).dn _).tr ((aB.refl _).dn _))
   ·have:k=A.length:=by omega
    subst this;go_wp2
    have hxy:A.map aI.l=B.map aI.l:=by
     have:=ht.out;rw[List.take_of_length_le (by simp),List.take_of_length_le (by rw[List.length_map,HLE.out];exact Nat.le_refl _)] at this;exact this
    have h:=HR.out;rw[decide_eq_true hxy] at h;exact h _ ((aB.refl w).dn _)
 ·have heq:((A.length:Int) != B.length)=true:=by simp;omega
  go_enter Tryz.func45,Tryz.ntmps45
  go_wp2
  have hxy:¬ A.map aI.l=B.map aI.l:=by
   intro h;have:=congrArg List.length h;simp at this
   exact hl this
  have h:=HR.out;rw[decide_eq_false hxy] at h;exact h _ (aB.refl _)
end Go.Proofs.YtjalimkajcjapaaGreatDoor
namespace Go.Proofs.YtjalimkajcjapaaGreatDoor
set_option maxRecDepth 100000
open Go.RowKit
theorem Rd.and_lt {w:World}{S:Nat->Prop}{size n:Nat}{v:Value}{xs:List Value}(h:Rd w S size v n xs)(h0:0<size):Rd w (fun b=>S b/\b<w.heap.size) size v n xs:=by
 have hl:=h.lt h0;obtain⟨hl0,A,c,hv,h1,h2,h3,h4⟩:=h;refine⟨hl0,A,c,hv,h1,h2,h3,fun hn=>?_⟩;obtain⟨b,o,hA,hSb,hc⟩:=h4 hn;have hx:0<xs.length:=by rw[hl0];exact Nat.mul_pos hn h0
 exact⟨b,o,hA,⟨hSb,World.block_lt_of_cell? w _ (hc 0 xs[0] (List.getElem?_eq_getElem hx))⟩,hc⟩
end Go.Proofs.YtjalimkajcjapaaGreatDoor
namespace Go.Proofs.YtjalimkajcjapaaGreatDoor
set_option maxRecDepth 100000
open Go.RowKit Go.Lib B
def dB.rd (w:World)(S:Nat->Prop)(r:dB):Prop:=Rd w S 6 r.v r.l.length (eH r.l)
def cF (parts:List (List aW)):List (List Pt):=(parts.map fun p=>bU (p.map aW.round) false).filter fun l=>decide (2<=l.length)
def eY (parts:List (List Pt)):List (List Pt):=(parts.map fun p=>bU p false).filter fun l=>decide (2<=l.length)
theorem oM {ps:List dB}{k:Nat}(hk:k<ps.length):cF ((ps.take (k+1)).map dB.l)=cF ((ps.take k).map dB.l)++(if 2<=(bU (ps[k].l.map aW.round) false).length then[bU (ps[k].l.map aW.round) false] else[]):=by
 unfold cF;rw[List.take_succ_eq_append_getElem hk,List.map_append,List.map_append,List.filter_append];congr 1
 simp[List.filter_cons]
theorem wP {ps:List aI}{k:Nat}(hk:k<ps.length):eY ((ps.take (k+1)).map aI.l)=eY ((ps.take k).map aI.l)++(if 2<=(bU ps[k].l false).length then[bU ps[k].l false] else[]):=by
 unfold eY;rw[List.take_succ_eq_append_getElem hk,List.map_append,List.map_append,List.filter_append];congr 1
 simp[List.filter_cons]
theorem fY:jT Tryz.prog 41 58 (.slice none 0 0) 1 24:=⟨by kernel_rfl,by kernel_rfl,rfl,by decide,by decide⟩
set_option maxHeartbeats 1000000 in
theorem ring_any (l:List aW)(v:Value)(S:Nat->Prop)(w:World)(hb:Rd w S 6 v l.length (eH l))(hok:∀ s∈l,s.ok)(hl:l.length<=100000){R:Ending->World->Prop}
  (hY:3<=(bU (l.map aW.round) true).length->∀ r w',w'.ownsRow w.heap.size 51 2 r (bU (l.map aW.round) true).length (Pts (bU (l.map aW.round) true))->aB w w'->R (.returned (.tuple #[r,.bool true])) w')
  (hN:¬ 3<=(bU (l.map aW.round) true).length->∀ w',aB w w'->R (.returned (.tuple #[.slice none 0 0,.bool false])) w'):
  Calls Tryz.prog 58 #[v] w R:=by
 have HY:=Lh hY;have HN:=Lh hN;clear hY hN;have HB:=Lh hb;have HK:=Lh hok;clear hb hok;go_enter Tryz.func58,Tryz.ntmps58
 go_wp2_with fail
 refine lU l v _ w HB.out HK.out hl ?_;intro q1 w1 hown1 hg1;have G1:=Lh hg1;have O1:=Lh hown1;clear hown1 hg1;go_wp2_with fail
 refine lR (l.map aW.round) true q1 _ w1 (by have:=Rd.own O1.out;rw[List.length_map];exact this) (by simp;omega) ?_;intro q2 w2 hown2 hg2;have G2:=Lh (G1.out.tr hg2);have O2:=Lh (fP hown2 G1.out.size);clear O1 G1 hg2;generalize bU (l.map aW.round) true=L at*;obtain⟨_,A2,c2,rfl,x1,x2,x3,-⟩:=Rd.own hown2;clear hown2
 by_cases h3:3<=L.length
 ·go_wp2
  exact HY.out h3 _ _ O2.out G2.out
 ·go_wp2
  exact HN.out h3 _ G2.out
end Go.Proofs.YtjalimkajcjapaaGreatDoor
namespace Go.Proofs.YtjalimkajcjapaaGreatDoor
set_option maxRecDepth 100000
open Go.RowKit
def Ns (l:List Nat):List Value:=l.map fun n:Nat=>.int .i64 (n:Int)
structure cE where
 v:Value
 l:List Nat
theorem qC {w:World}{base size n:Nat}{e:TypeId}{v:Value}{xs:List Value}(h:w.ownsRow base e size v n xs)(hn:0<n):∃ g cap,v=.slice (some ⟨g,0,none⟩) n cap:=by
 rcases h.2 with ⟨_,h0⟩|⟨g,cap,_,hv,_⟩
 ·omega
 ·exact⟨g,cap,hv⟩
theorem wG {w:World}{base size n g c:Nat}{e:TypeId}{xs:List Value}(h:w.ownsRow base e size (.slice (some ⟨g,0,none⟩) n c) n xs)(j:Nat):w.frozen? ⟨g,j,none⟩=false:=by
 rcases h.2 with ⟨h0,_⟩|⟨g',cap,cur,hv,_,hh,_⟩
 ·cases h0
 ·injection hv with e1 _ _
  injection e1 with e1
  injection e1 with e1
  subst e1;exact frozen_of_row w g j cur e hh
structure Grp (W:World) (base:Nat) (s:Value) (m:Nat) (rows:List cE):Prop where
 out:W.ownsRow base 65 1 s m (rows.map cE.v)
 each:∀ r∈rows,W.ownsRow base 3 1 r.v r.l.length (Ns r.l)/\r.v.ownBlock≠none/\r.v.ownBlock≠s.ownBlock
 dist:rows.Pairwise (fun r q=>r.v.ownBlock≠q.v.ownBlock)
theorem Grp.nil (W:World)(base:Nat):Grp W base (.slice none 0 0) 0 []:=⟨World.ownsRow_nil _ _ _ _,fun r hr=>by simp at hr,List.Pairwise.nil⟩
theorem Grp.grow {W W':World}{base m:Nat}{s:Value}{rows:List cE}(h:Grp W base s m rows)(hg:aB W W'):Grp W' base s m rows:=
 ⟨aJ h.out hg,fun r hr=>⟨aJ (h.each r hr).1 hg,(h.each r hr).2⟩,h.dist⟩
theorem Grp.blk {W:World}{base m:Nat}{s:Value}{rows:List cE}(h:Grp W base s m rows){r:cE}(hr:r∈rows){b:Nat}(hb:W.heap.size<=b):r.v.ownBlock≠some b:=by
 intro e;have:=((h.each r hr).1.lt b e).2;omega
theorem Grp.app {W w':World}{base m i:Nat}{s v':Value}{rows:List cE}(h:Grp W base s m rows)(hb:base<=W.heap.size)
  (ho:w'.ownsRow base 65 1 v' (m+1) (rows.map cE.v++[.slice (some ⟨W.heap.size,0,none⟩) 1 1]))
  (hg:(W.alloc (.cells #[.int .i64 i] 3)).grownBy w' s.ownBlock) (hbk:v'.ownBlock=s.ownBlock∨v'.ownBlock=some ((W.alloc (.cells #[.int .i64 i] 3)).heap.size+1)):
  Grp w' base v' (m+1) (rows++[⟨.slice (some ⟨W.heap.size,0,none⟩) 1 1,[i]⟩]):=by
 have hs:s.ownBlock≠some W.heap.size:=by
  intro e;have:=(h.out.lt _ e).2;omega
 have hv':v'.ownBlock≠some W.heap.size:=by
  rcases hbk with e|e
  ·rw[e];exact hs
  ·rw[e,World.size_alloc];intro e2;injection e2 with e2;omega
 have hnew:(W.alloc (.cells #[.int .i64 i] 3)).ownsRow base 3 1 (.slice (some ⟨W.heap.size,0,none⟩) 1 1) 1 (Ns [i]):=
  ⟨rfl,.inr ⟨W.heap.size,1,#[.int .i64 i],rfl,hb,heap_alloc_new _ _,Nat.le_refl _,by decide,rfl,rfl⟩⟩
 refine⟨by rw[List.map_append];exact ho,?_,?_⟩
 ·intro r hr
  rcases List.mem_append.1 hr with hr|hr
  ·obtain⟨h1,h2,h3⟩:=h.each r hr
   refine⟨(aJ h1 ((aB.refl W).al _)).kept hg (.inr h3),h2,?_⟩;rcases hbk with e|e
   ·rw[e];exact h3
   ·rw[e];exact h.blk hr (by rw[World.size_alloc];omega)
  ·rw[List.mem_singleton.1 hr]
   exact⟨hnew.kept hg (.inr (fun e=>hs e.symm)),by simp[Value.ownBlock],fun e=>hv' e.symm⟩
 ·rw[List.pairwise_append]
  refine⟨h.dist,List.pairwise_singleton _ _,fun r hr q hq=>?_⟩;rw[List.mem_singleton.1 hq];exact h.blk hr (Nat.le_refl _)
theorem Grp.last {W w':World}{base m i g c:Nat}{v':Value}{init:List cE}{r:cE}(h:Grp W base (.slice (some ⟨g,0,none⟩) m c) m (init++[r]))(_:m=init.length+1)
  (ho:w'.ownsRow base 3 1 v' (r.l.length+1) (Ns r.l++[.int .i64 i])) (hg:W.grownBy w' r.v.ownBlock) (hbk:v'.ownBlock=r.v.ownBlock∨v'.ownBlock=some (W.heap.size+1)):
  Grp (w'.setCell ⟨g,init.length,none⟩ v') base (.slice (some ⟨g,0,none⟩) m c) m (init++[⟨v',r.l++[i]⟩]):=by
 have hr:=h.each r (List.mem_append.2 (.inr (List.mem_singleton.2 rfl)));have hgl:g<W.heap.size:=(h.out.lt g rfl).2
 have hv':v'.ownBlock≠some g:=by
  rcases hbk with e|e
  ·rw[e];exact hr.2.2
  ·rw[e];intro e2;injection e2 with e2;omega
 have h1:=h.out.kept hg (.inr (fun e=>hr.2.2 e.symm));obtain⟨h2,h3⟩:=h1.stored init.length v';have hd:=List.pairwise_append.1 h.dist;refine⟨?_,?_,?_⟩
 ·refine aO h2 rfl ?_
  rw[List.map_append,List.map_append,List.set_append_right _ _ (by simp)];simp
 ·intro q hq
  rcases List.mem_append.1 hq with hq|hq
  ·obtain⟨q1,q2,q3⟩:=h.each q (List.mem_append.2 (.inl hq))
   refine⟨(q1.kept hg (.inr (hd.2.2 q hq r (List.mem_singleton.2 rfl)))).kept h3 (.inr q3),q2,q3⟩
  ·rw[List.mem_singleton.1 hq]
   refine⟨aO (ho.kept h3 (.inr hv')) (by simp) (by simp[Ns]),?_,hv'⟩;obtain⟨g',cap,e⟩:=qC ho (by omega);dsimp only;rw[e];simp[Value.ownBlock]
 ·rw[List.pairwise_append]
  refine⟨hd.1,List.pairwise_singleton _ _,fun q hq p hp=>?_⟩;rw[List.mem_singleton.1 hp];rcases hbk with e|e
  ·dsimp only;rw[e];exact hd.2.2 q hq r (List.mem_singleton.2 rfl)
  ·dsimp only;rw[e];exact h.blk (List.mem_append.2 (.inl hq)) (by omega)
def dE (gs:List (List Nat))(i:Nat):List (List Nat):=
 match gs.reverse with
 |[]=>[]
 |g::t=>t.reverse++[g++[i]]
theorem dY (a:List (List Nat))(g:List Nat)(i:Nat):dE (a++[g]) i=a++[g++[i]]:=by simp[dE]
def jW (st:List (List Nat)×Int)(i:Nat)(s:Int):List (List Nat)×Int:=
 if s=0 then st else if st.2=0 then(st.1++[[i]],s) else if s=st.2 then(st.1++[[i]],st.2) else(dE st.1 i,st.2)
def aX (f:Nat->Int):Nat->List (List Nat)×Int
 |0=>([],0)
 |k+1=>jW (aX f k) k (f k)
theorem rO {gs:List (List Nat)}{i:Nat}(h:gs≠[]):dE gs i≠[]:=by
 rcases List.eq_nil_or_concat gs with rfl|⟨a,g,rfl⟩
 ·exact absurd rfl h
 ·rw[List.concat_eq_append,dY];simp
theorem kO (f:Nat->Int):∀ k,(aX f k).2≠0->(aX f k).1≠[]
 |0=>fun h=>absurd rfl h
 |k+1=>by
  have ih:=kO f k;simp only[aX,jW]
  split
  ·exact ih
  ·split
   ·intro _;simp
   ·split
    ·intro _;simp
    ·intro h;exact rO (ih h)
end Go.Proofs.YtjalimkajcjapaaGreatDoor
