import Derived.Test.YtjalimkajcjapaaGreatDoorRowsA
import Derived.Laws.OwnMore
import Derived.Test.YtjalimkajcjapaaGreatDoorLValA
namespace Go.Proofs.YtjalimkajcjapaaGreatDoor
set_option maxRecDepth 100000
open Go.RowKit Go.Lib B
def InsN (base:Nat)(v:Value):Nat->Prop:=fun b=>some b≠v.ownBlock/\base<=b
def dF (base:Nat)(w:World)(v:Value)(rows:List aI):Prop:=∀ r∈rows,r.rd w (InsN base v)
theorem dF.grow {base:Nat}{w w':World}{v:Value}{rows:List aI}(h:dF base w v rows)(hg:aB w w'):dF base w' v rows:=fun r hr=>(h r hr).gr2 (by decide) hg
theorem Rd.insN_app {base:Nat}{w w':World}{size n k:Nat}{v v' x:Value}{xs:List Value}(h:Rd w (InsN base v) size x n xs)(h0:0<size)(hg:w.grownBy w' v.ownBlock)(hb:v'.ownBlock=v.ownBlock∨v'.ownBlock=some k)(hk:w.heap.size<=k):Rd w' (InsN base v') size x n xs:=by
 have h1:=(h.and_lt h0).by_ h0 hg (fun b hb=>hb.1.1);refine h1.into fun b hb1=>?_
 refine⟨?_,hb1.1.2⟩;rcases hb with hb|hb
 ·rw[hb];exact hb1.1.1
 ·rw[hb]
  intro e;injection e with e
  have:=hb1.2;omega
theorem dF.app {base k:Nat}{w w':World}{v v':Value}{rows rs:List aI}(h:dF base w v rows)(hr:dF base w v rs)(hg:w.grownBy w' v.ownBlock)(hb:v'.ownBlock=v.ownBlock∨v'.ownBlock=some k)(hk:w.heap.size<=k):dF base w' v' (rows++rs):=by
 intro q hq;rcases List.mem_append.1 hq with hq|hq
 ·exact Rd.insN_app (h q hq) (by decide) hg hb hk
 ·exact Rd.insN_app (hr q hq) (by decide) hg hb hk
set_option maxHeartbeats 4000000 in
theorem wM (ps:List dB)(a:Value)(S S':Nat->Prop)(w:World)(ha:Rd w S 1 a ps.length (ps.map dB.v))(hA:∀ r∈ps,r.rd w S'/\r.l.length<=1000/\∀ s∈r.l,s.ok)(hl:ps.length<=1000){R:Ending->World->Prop}
  (hR:∀ r rows w',w'.ownsRow w.heap.size 58 1 r rows.length (rows.map aI.v)->dF w.heap.size w' r rows->rows.map aI.l=cF (ps.map dB.l)->aB w w'->R (.returned r) w'):
  Calls Tryz.prog 56 #[a] w R:=by
 have HR:=Lh hR;clear hR;have ha:=ha.lt (by decide);have HA0:=Lh ha;have HA:=Lh hA;clear hA;obtain⟨_,A,c,rfl,h1,h2,h3,h4⟩:=ha;unfold maxLen at h2;go_enter Tryz.func56,Tryz.ntmps56
 go_wp2
 go_loopw [9,3] (fun i s wr=>∃ (k m:Nat) (rows:List aI),k<=ps.length/\i=.int .i64 k/\m<=k/\Hid (m=rows.length)/\wr.ownsRow w.heap.size 58 1 s m (rows.map aI.v)/\Hid (dF w.heap.size wr s rows)/\Hid (rows.map aI.l=cF ((ps.take k).map dB.l))/\Hid (aB w wr)) (fun i _ _=>ps.length-(Go.RowKit.intOf i).toNat)
 case atStart=>exact⟨0,0,[],Nat.zero_le _,rfl,Nat.le_refl _,rfl,World.ownsRow_nil _ _ _ _,fun r hr=>by simp at hr,rfl,aB.refl _⟩
 case round=>
  obtain⟨k,m,rows,hk,rfl,hmk,hm,hown,hin,hls,hg⟩:=hrel
  by_cases hlt:k<ps.length
  ·obtain⟨b,o,rfl,-,-⟩:=h4 (by omega)
   have c1:wr.cell? ⟨b,o+k,none⟩=some (ps[k]'hlt).v:=by
    have:=bH hg.out HA0.out rfl (i:=k) (by simpa using hlt);rw[List.getElem_map] at this;exact this
   have r1:=HA.out (ps[k]'hlt) (List.getElem_mem hlt);have LS:=Lh (oM hlt);have HO:=Lh hown;clear h3 h4 hown;generalize ps[k]'hlt=p at*;obtain⟨v,l⟩:=p;dsimp only at*;obtain⟨r1,hl1,hl2⟩:=r1;have HL2:=Lh hl2;clear hl2;unfold dB.rd at r1;dsimp only at r1;have r1:=Lh (r1.gr (by decide) hg.out);go_wp2_with fail
   clear c1;refine lU l v _ wr r1.out HL2.out (by omega) ?_;intro q1 w1 hown1 hg1;have G1:=Lh (hg.out.tr hg1);have O1:=Lh hown1;have HO1:=Lh (aJ HO.out hg1);have IN1:=Lh (hin.out.grow hg1);clear hown1 hg1 HO;go_wp2_with fail
   refine lR (l.map aW.round) false q1 _ w1 (by have:=Rd.own O1.out;rw[List.length_map];exact this) (by simp;omega) ?_;intro q2 w2 hown2 hg2;have G2:=Lh (G1.out.tr hg2);have HO2:=Lh (aJ HO1.out hg2);have IN2:=Lh (IN1.out.grow hg2)
   have NEW:Hid (dF w.heap.size w2 u3 [⟨q2,bU (l.map aW.round) false⟩]):=fun r hr=>by
    rw[List.mem_singleton.1 hr]
    refine(Rd.own_from hown2).into fun b hb=>⟨?_,by have:=G1.out.size;omega⟩
    intro e;have:=(HO1.out.lt b e.symm).2;omega
   clear HO1 O1 IN1 G1 r1;generalize bU (l.map aW.round) false=L at*;obtain⟨_,A2,c2,rfl,x1,x2,x3,-⟩:=Rd.own hown2;unfold maxLen at x2;clear hg2 hown2
   by_cases h2:2<=L.length
   ·have LS2:Hid (cF ((ps.take (k+1)).map dB.l)=cF ((ps.take k).map dB.l)++[L]):=by have:=LS.out;rw[if_pos h2] at this;exact this
    go_wp2_with (at_builtin;refine bJ rfl _ _ rfl fY HO2.out rfl 1 _ rfl (by decide) rfl (by simp[Value.oneCell']) (by omega) G2.out ⟨Nat.le_refl _,G2.out.size⟩ ?_;intro v1 w4 hown4 hg4 hgr4 hb4;have HG4:=Lh hg4;have HO4:=Lh hown4;have IN4:=Lh (IN2.out.app NEW.out hgr4 hb4 (Nat.le_succ _));clear hg4 hgr4 hb4 hown4)
    go_roundw
    case rel=>exact⟨k+1,m+1,rows++[aI.mk (.slice A2 L.length c2) L],by omega,by go_num,by omega,by rw[List.length_append,<-hm.out];rfl,by rw[List.map_append];exact HO4.out,IN4.out,by rw[LS2.out,List.map_append,hls.out];rfl,HG4.out⟩
    case measure=>simp[Go.RowKit.intOf];omega
   ·have LS2:Hid (cF ((ps.take (k+1)).map dB.l)=cF ((ps.take k).map dB.l)):=by have:=LS.out;rw[if_neg h2,List.append_nil] at this;exact this
    go_wp2;go_roundw
    case rel=>exact⟨k+1,m,rows,by omega,by go_num,by omega,hm.out,HO2.out,IN2.out,by rw[LS2.out];exact hls.out,G2.out⟩
    case measure=>simp[Go.RowKit.intOf];omega
  ·obtain rfl:k=ps.length:=by omega
   have hm':=hm.out;subst hm';go_wp2;refine HR.out _ rows _ hown hin.out ?_ hg.out;rw[hls.out,List.take_length]
theorem rE (l:List Pt)(lo hi:Int):∀ k,(∀ p∈(cX l lo hi k).1,p.length<=2*k)/\(cX l lo hi k).2.length<=2*k
 |0=>⟨fun p h=>by simp[cX] at h,Nat.le_refl _⟩
 |k+1=>by
  obtain⟨h1,h2⟩:=rE l lo hi k
  have fin:∀ st:LS,(∀ p∈st.1,p.length<=2*(k+1))/\st.2.length<=2*(k+1)->(∀ p∈(iL st).1,p.length<=2*(k+1))/\(iL st).2.length<=2*(k+1):=by
   intro st h;unfold iL;refine⟨fun p hp=>?_,by simp⟩;dsimp only at hp;rcases List.mem_append.1 hp with hp|hp
   ·exact h.1 p hp
   ·split at hp
    ·simp at hp
    ·rw[List.mem_singleton.1 hp];exact h.2
  have seg:∀ p q:Pt,(∀ x∈(nM (cX l lo hi k) p q lo hi).1,x.length<=2*(k+1))/\(nM (cX l lo hi k) p q lo hi).2.length<=2*(k+1):=by
   intro p q;unfold nM
   split
   ·refine⟨fun x hx=>by have:=h1 x hx;omega,?_⟩
    have a:=gJ (fV (cX l lo hi k).2 (iZ p q lo hi).1) (iZ p q lo hi).2.1;have b:=gJ (cX l lo hi k).2 (iZ p q lo hi).1;dsimp only;omega
   ·exact⟨fun x hx=>by have:=h1 x hx;omega,by omega⟩
  rw[gN];unfold mK
  split
  ·exact⟨fun x hx=>by have:=h1 x hx;omega,by omega⟩
  ·rename_i p _
   split
   ·split
    ·have:=gJ (cX l lo hi k).2 (bI p)
     exact⟨fun x hx=>by have:=h1 x hx;omega,by dsimp only;omega⟩
    ·exact⟨fun x hx=>by have:=h1 x hx;omega,by omega⟩
   ·split
    ·exact⟨fun x hx=>by have:=h1 x hx;omega,by omega⟩
    ·split
     ·exact seg _ _
     ·exact fin _ (seg _ _)
theorem sX (l:List Pt)(lo hi:Int):(cZ l lo hi).length<=l.length+1/\∀ p∈cZ l lo hi,p.length<=2*l.length:=by
 unfold cZ
 split
 ·unfold sY
  have a:=(mE l lo hi l.length).1;have b:=(xG (cX l lo hi l.length)).1;refine⟨by omega,fun p hp=>?_⟩;obtain⟨h1,h2⟩:=rE l lo hi l.length;unfold iL at hp;dsimp only at hp;rcases List.mem_append.1 hp with hp|hp
  ·exact h1 p hp
  ·split at hp
   ·simp at hp
   ·rw[List.mem_singleton.1 hp];exact h2
 ·exact⟨by simp,fun p hp=>by simp at hp⟩
theorem clipR_ok {l:List Pt}{lo hi:Int}:∀ p∈cZ l lo hi,∀ s∈p,s.ok:=by
 intro p hp s hs
 by_cases he:cY l lo hi=0
 ·have hr:=(nG he).2 p hp s hs
  obtain⟨h1,h2,h3,h4,-⟩:=Fr.right_iff hr.1;obtain⟨g1,g2,g3,g4,-⟩:=Fr.right_iff hr.2;exact⟨⟨by omega,by omega,by omega,by omega⟩,by omega,by omega,by omega,by omega⟩
 ·unfold cZ at hp
  rw[if_neg he] at hp;simp at hp
theorem yX (parts:List (List aW)):(cF parts).length<=parts.length:=by
 unfold cF;refine Nat.le_trans (List.length_filter_le _ _) ?_;rw[List.length_map];exact Nat.le_refl _
set_option maxHeartbeats 8000000 in
theorem yT (ps:List aI)(a:Value)(lo hi:Int)(S S':Nat->Prop)(w:World)(ha:Rd w S 1 a ps.length (ps.map aI.v))(hA:∀ r∈ps,r.rd w S'/\r.l.length<=400)(hl:ps.length<=400){R:Ending->World->Prop}
  (hR:∀ r rows w',w'.ownsRow w.heap.size 58 1 r rows.length (rows.map aI.v)->dF w.heap.size w' r rows->rows.map aI.l=(ps.map aI.l).flatMap (fun p=>cF (cZ p lo hi))->aB w w'->R (.returned r) w'):
  Calls Tryz.prog 30 #[a,.int .i64 lo,.int .i64 hi] w R:=by
 have HR:=Lh hR;clear hR;have ha:=ha.lt (by decide);have HA0:=Lh ha;have HA:=Lh hA;clear hA;obtain⟨_,A,c,rfl,h1,h2,h3,h4⟩:=ha;unfold maxLen at h2;go_enter Tryz.func30,Tryz.ntmps30
 go_wp2
 go_loopw [14,7] (fun i s wr=>∃ (k:Nat) (rows:List aI),k<=ps.length/\i=.int .i64 k/\wr.ownsRow w.heap.size 58 1 s rows.length (rows.map aI.v)/\Hid (dF w.heap.size wr s rows)/\Hid (rows.map aI.l=((ps.take k).map aI.l).flatMap (fun p=>cF (cZ p lo hi)))/\Hid (rows.length<=401*k)/\Hid (aB w wr)) (fun i _ _=>ps.length-(Go.RowKit.intOf i).toNat)
 case atStart=>exact⟨0,[],Nat.zero_le _,rfl,World.ownsRow_nil _ _ _ _,fun r hr=>by simp at hr,rfl,Nat.zero_le _,aB.refl _⟩
 case round=>
  obtain⟨k,rows,hk,rfl,hown,hin,hls,hrn,hg⟩:=hrel;obtain⟨ap,cp,rfl⟩:=aH hown
  by_cases hlt:k<ps.length
  ·obtain⟨b,o,rfl,-,-⟩:=h4 (by omega)
   have c1:wr.cell? ⟨b,o+k,none⟩=some (ps[k]'hlt).v:=by
    have:=bH hg.out HA0.out rfl (i:=k) (by simpa using hlt);rw[List.getElem_map] at this;exact this
   have r1:=HA.out (ps[k]'hlt) (List.getElem_mem hlt)
   have LS:Hid (((ps.take (k+1)).map aI.l).flatMap (fun p=>cF (cZ p lo hi))=((ps.take k).map aI.l).flatMap (fun p=>cF (cZ p lo hi))++cF (cZ (ps[k]'hlt).l lo hi)):=by
    show _=_;rw[List.take_succ_eq_append_getElem hlt,List.map_append,List.flatMap_append];simp
   have HO:=Lh hown;clear h3 h4 hown;generalize ps[k]'hlt=p at*;obtain⟨v,l⟩:=p;dsimp only at*;obtain⟨r1,hl1⟩:=r1;unfold aI.rd at r1;dsimp only at r1;have r1:=Lh ((r1.lt (by decide)).gr (by decide) hg.out);have CL:=Lh (sX l lo hi);have CO:=Lh (clipR_ok (l:=l) (lo:=lo) (hi:=hi));go_wp2_with fail
   clear c1;go_at_call 55;refine clipL_any l lo hi v _ wr r1.out (by omega) ?_;intro r5 rows5 w5 hO5 hR5 hE5 hg5;have HO:=Lh (aJ HO.out hg5);have HOW:=Lh HO.out;have IN:=Lh (hin.out.grow hg5);have hg:=Lh (hg.out.tr hg5);have hgw:=Lh hg.out;have R5:=Lh (Rd.own hO5);have HR5:=Lh hR5;have LP:Hid (rows5.length<=401):=by show _<=_;have:=congrArg List.length hR5;rw[List.length_map] at this;have:=CL.out.1;omega
   have E5:Hid (∀ x∈rows5,dB.rd w5 (·<w5.heap.size) x/\x.l.length<=1000/\∀ s∈x.l,s.ok):=fun x hx=>by
    have hm:x.l∈cZ l lo hi:=by rw[<-hR5];exact List.mem_map_of_mem hx
    exact⟨hE5 x hx,by have:=CL.out.2 _ hm;omega,CO.out _ hm⟩
   obtain⟨A5,c5,rfl⟩:=aH hO5;clear hO5 hR5 hE5 hg5 r1 CL CO hin;go_wp2_with fail
   go_at_call 56;refine wM rows5 _ _ _ w5 R5.out E5.out (by have:=LP.out;omega) ?_;intro r6 rows6 w6 hO6 hN6 hL6 hg6;have HO:=Lh (aJ HO.out hg6);have IN:=Lh (IN.out.grow hg6);have hg:=Lh (hg.out.tr hg6);have R6:=Lh (Rd.own hO6);have LO:Hid (rows6.length<=401):=by show _<=_;have:=congrArg List.length hL6;rw[List.length_map] at this;have:=yX (rows5.map dB.l);rw[List.length_map] at this;have:=LP.out;omega
   have L6:Hid (rows6.map aI.l=cF (cZ l lo hi)):=by show _=_;rw[hL6,HR5.out]
   have N6:Hid (dF w.heap.size w6 (.slice ap rows.length cp) rows6):=fun r hr=>(hN6 r hr).into fun b hb=>⟨fun e=>by
    have h1:=hb.2;have h2:=(HOW.out.lt b e.symm).2
    omega,by have:=hb.2;have:=hgw.out.size;omega⟩
   obtain⟨A6,c6,rfl⟩:=aH hO6;clear hO6 hN6 hL6 hg6 R5 E5 HR5 LP HOW hgw;go_upto_region 7 with (at_builtin;refine fT rfl _ _ rfl fY HO.out rfl R6.out rfl (fun u hu=>by obtain⟨r,hr,rfl⟩:=List.mem_map.1 hu;obtain⟨_,A',c',hv,-⟩:=N6.out r hr;rw[hv];rfl) (by have:=LO.out;have:=hrn.out;omega) hg.out.size ?_;intro v9 w9 hO9 hgr9 hb9)
   have HO9:=Lh (aO hO9 (List.length_append).symm (List.map_append).symm);have IN9:=Lh (IN.out.app N6.out hgr9 hb9 (Nat.le_refl _));have HG9:=Lh (bK hg.out hgr9 (cA HO.out));have L9:Hid ((rows++rows6).map aI.l=((ps.take (k+1)).map aI.l).flatMap (fun p=>cF (cZ p lo hi))):=by show _=_;rw[LS.out,List.map_append,hls.out,L6.out]
   have B9:Hid ((rows++rows6).length<=401*(k+1)):=by show _<=_;rw[List.length_append];have:=LO.out;have:=hrn.out;omega
   clear hO9 hgr9 hb9 HO IN R6 N6 LS L6 hls hrn LO;go_wp2;go_roundw
   case rel=>exact⟨k+1,rows++rows6,by omega,by go_num,HO9.out,IN9.out,L9.out,B9.out,HG9.out⟩
   case measure=>simp[Go.RowKit.intOf];omega
  ·obtain rfl:k=ps.length:=by omega
   rw[List.take_length] at hls;go_wp2;exact HR.out _ rows _ hown hin.out hls.out hg.out
end Go.Proofs.YtjalimkajcjapaaGreatDoor
