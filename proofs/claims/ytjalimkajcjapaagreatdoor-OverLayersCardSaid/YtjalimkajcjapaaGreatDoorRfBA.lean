import Derived.Test.YtjalimkajcjapaaGreatDoorWindB
import Derived.Test.YtjalimkajcjapaaGreatDoorRRb
import Derived.Test.YtjalimkajcjapaaGreatDoorOvJV
import Derived.Test.YtjalimkajcjapaaGreatDoorRfA
import Derived.Test.YtjalimkajcjapaaGreatDoorOvQR
namespace Go.Proofs.YtjalimkajcjapaaGreatDoor
set_option maxRecDepth 100000
open Go.RowKit B
set_option maxHeartbeats 8000000 in
theorem vV (ps:List aI)(a:Value)(S S':Nat->Prop)(w:World)(ha:Rd w S 1 a ps.length (ps.map aI.v))(hA:∀ r∈ps,r.rd w S')(hl:ps.length<=1000){R:Ending->World->Prop}
  (hR:∀ s rows w',Grp w' w.heap.size s rows.length rows->rows.map cE.l=(aX (eB ps) ps.length).1->aB w w'->R (.returned (.tuple #[s,.bool (decide (0<rows.length))])) w'):
  Calls Tryz.prog 66 #[a] w R:=by
 have HR:=Lh hR;clear hR;have ha:=ha.lt (by decide);have HA0:=Lh ha;have HA:=Lh hA;clear hA;obtain⟨_,A,c,rfl,h1,h2,h3,h4⟩:=ha;unfold maxLen at h2;go_enter Tryz.func66,Tryz.ntmps66
 go_wp2
 go_loopw [6,4,5] (fun i s f wr=>∃ (k m c:Nat) (A:Option Addr) (rows:List cE) (fi:Int),k<=ps.length/\i=.int .i64 k/\m<=k/\Hid (m=rows.length)/\s=.slice A m c/\f=.int .i64 fi/\(-1<=fi/\fi<=1)/\Hid (Grp wr w.heap.size (.slice A m c) m rows)/\Hid (aX (eB ps) k=(rows.map cE.l,fi))/\Hid (∀ r∈rows,r.l.length<=k)/\Hid (aB w wr)) (fun i _ _ _=>ps.length-(intOf i).toNat)
 case atStart=>exact⟨0,0,0,none,[],0,Nat.zero_le _,rfl,Nat.le_refl _,rfl,rfl,rfl,by omega,Grp.nil _ _,rfl,fun r hr=>by simp at hr,aB.refl _⟩
 case round=>
  obtain⟨k,m,cc,AA,rows,fi,hk,rfl,hmk,hm,rfl,rfl,hfi,hgr,hga,hrl,hg⟩:=hrel
  by_cases hlt:k<ps.length
  ·obtain⟨b,o,rfl,-,-⟩:=h4 (by omega)
   have c1:wr.cell? ⟨b,o+k,none⟩=some (ps[k]'hlt).v:=by
    have:=bH hg.out HA0.out rfl (i:=k) (by simpa using hlt);rw[List.getElem_map] at this;exact this
   have r1:=HA.out (ps[k]'hlt) (List.getElem_mem hlt)
   have SG:Hid (eB ps k=dM (bP (ps[k]'hlt).l)):=by
    show _=_;simp[eB,hlt]
   have GS:Hid (aX (eB ps) (k+1)=jW (rows.map cE.l,fi) k (eB ps k)):=by
    show _=_;rw[aX,hga.out]
   have NE:Hid (fi≠0->rows≠[]):=by
    intro h e;have:=kO (eB ps) k;rw[hga.out,e] at this;exact this h rfl
   clear h3 h4 hga;generalize ps[k]'hlt=p at*;obtain⟨v,l⟩:=p;dsimp only at*;unfold aI.rd at r1;dsimp only at r1;have r1:=Lh (r1.gr2 (by decide) hg.out);have bs:=sgnI_bd (bP l);have HS:=Lh fun (R:Ending->World->Prop) hR=>nO l v _ wr r1.out (R:=R) hR
   rw[<-SG.out] at HS bs;obtain⟨_,A2,c2,rfl,x1,x2,x3,-⟩:=r1.out;unfold maxLen at x2;generalize eB ps k=s at*;clear r1 SG;go_wp2_with fail
   clear c1;refine HS.out _ ?_;intro w1 hg1;have G1:=Lh (hg.out.tr hg1);have GR1:=Lh (hgr.out.grow hg1);clear hg1 hgr HS;have ST:Hid (∀ st,jW (rows.map cE.l,fi) k s=st->aX (eB ps) (k+1)=st):=by rintro st rfl;exact GS.out
   clear GS
   by_cases hs0:s=0
   ·have ST:=Lh (ST.out (rows.map cE.l,fi) (by rw[jW,if_pos hs0]))
    have t1:(s==0)=true:=by simp[hs0]
    clear NE
    by_cases hf0:fi=0
    ·have t2:(fi==0)=true:=by simp[hf0]
     have ST:=Lh (show aX (eB ps) (k+1)=(rows.map cE.l,0) by have:=ST.out;rw[hf0] at this;exact this);go_wp2;go_roundw
     case rel=>exact⟨k+1,m,cc,AA,rows,0,by omega,by go_num,by omega,hm.out,rfl,rfl,by omega,GR1.out,ST.out,fun r hr=>Nat.le_succ_of_le (hrl.out r hr),G1.out⟩
     case measure=>simp[intOf];omega
    ·have t2:(fi==0)=false:=by simp[hf0]
     go_wp2;go_roundw
     case rel=>exact⟨k+1,m,cc,AA,rows,fi,by omega,by go_num,by omega,hm.out,rfl,rfl,hfi,GR1.out,ST.out,fun r hr=>Nat.le_succ_of_le (hrl.out r hr),G1.out⟩
     case measure=>simp[intOf];omega
   ·have t1:(s==0)=false:=by simp[hs0]
    have ST2:=ST.out;rw[jW,if_neg hs0] at ST2;clear ST
    by_cases hf0:fi=0
    ·have t2:(fi==0)=true:=by simp[hf0]
     have ST3:Hid (∀ st,(rows.map cE.l++[[k]],s)=st->aX (eB ps) (k+1)=st):=by
      intro st h;refine ST2 st ?_;rw[if_pos hf0];exact h
     clear ST2 NE;go_wp2_with (at_builtin;refine aM rfl _ _ rfl pE (aJ GR1.out.out ((aB.refl _).al _)) rfl 1 _ (World.size_alloc _ _) _ rfl (by decide) rfl (by simp[Value.oneCell']) (by omega) (G1.out.al _) ⟨Nat.le_refl _,(G1.out.al _).size⟩ ?_;intro v1 w4 hown4 hg4 hgr4 hb4;have GR4:=Lh (GR1.out.app G1.out.size hown4 hgr4 hb4);have G4:=Lh hg4;obtain⟨A5,c5,rfl⟩:=aH hown4;clear hown4 hg4 hgr4 hb4)
     go_roundw
     case rel=>
      refine⟨k+1,m+1,c5,A5,_,s,by omega,by go_num,by omega,?_,rfl,rfl,by omega,GR4.out,?_,?_,G4.out⟩
      ·show _=_
       rw[List.length_append,<-hm.out];rfl
      ·refine ST3.out _ ?_
       rw[List.map_append];rfl
      ·intro r hr
       rcases List.mem_append.1 hr with hr|hr
       ·exact Nat.le_succ_of_le (hrl.out r hr)
       ·rw[List.mem_singleton.1 hr];simp
     case measure=>simp[intOf];omega
    ·have t2:(fi==0)=false:=by simp[hf0]
     rw[if_neg hf0] at ST2
     by_cases hsf:s=fi
     ·have t3:(s==fi)=true:=by simp[hsf]
      have ST3:Hid (∀ st,(rows.map cE.l++[[k]],fi)=st->aX (eB ps) (k+1)=st):=by
       intro st h;refine ST2 st ?_;rw[if_pos hsf];exact h
      clear ST2 NE;go_wp2_with (at_builtin;refine aM rfl _ _ rfl pE (aJ GR1.out.out ((aB.refl _).al _)) rfl 1 _ (World.size_alloc _ _) _ rfl (by decide) rfl (by simp[Value.oneCell']) (by omega) (G1.out.al _) ⟨Nat.le_refl _,(G1.out.al _).size⟩ ?_;intro v1 w4 hown4 hg4 hgr4 hb4;have GR4:=Lh (GR1.out.app G1.out.size hown4 hgr4 hb4);have G4:=Lh hg4;obtain⟨A5,c5,rfl⟩:=aH hown4;clear hown4 hg4 hgr4 hb4)
      go_roundw
      case rel=>
       refine⟨k+1,m+1,c5,A5,_,fi,by omega,by go_num,by omega,?_,rfl,rfl,by omega,GR4.out,?_,?_,G4.out⟩
       ·show _=_
        rw[List.length_append,<-hm.out];rfl
       ·refine ST3.out _ ?_
        rw[List.map_append];rfl
       ·intro r hr
        rcases List.mem_append.1 hr with hr|hr
        ·exact Nat.le_succ_of_le (hrl.out r hr)
        ·rw[List.mem_singleton.1 hr];simp
      case measure=>simp[intOf];omega
     ·have t3:(s==fi)=false:=by simp[hsf]
      have ST3:Hid (∀ st,(dE (rows.map cE.l) k,fi)=st->aX (eB ps) (k+1)=st):=by
       intro st h;refine ST2 st ?_;rw[if_neg hsf];exact h
      have hne:=NE.out hf0;clear ST2 NE
      obtain⟨init,r,rfl⟩:∃ init r,rows=init++[r]:=by
       rcases List.eq_nil_or_concat rows with rfl|⟨i,r,rfl⟩
       ·exact absurd rfl hne
       ·exact⟨i,r,List.concat_eq_append⟩
      have hm2:m=init.length+1:=by have:=hm.out;simpa using this
      have HM:=Lh hm2;obtain⟨g,c6,e6⟩:=qC GR1.out.out (by omega);injection e6 with e6 _ e7
      subst e6 e7;have hmem:r∈init++[r]:=List.mem_append.2 (.inr (List.mem_singleton.2 rfl));have HE:=Lh (GR1.out.each r hmem);have hrb:=hrl.out r hmem
      have cl:w1.cell? ⟨g,init.length,none⟩=some r.v:=by
       have:=bH (aB.refl w1) (Rd.own GR1.out.out) rfl (i:=init.length) (by simp);rw[Nat.zero_add] at this;rw[this];simp
      obtain⟨A7,c7,e7⟩:=aH HE.out.1;obtain⟨rv,rl⟩:=r;dsimp only at e7 HE cl hrb;subst e7;clear hne hmem;subst hm2;have GH:Hid (w1.ownsRow w.heap.size 65 1 (.slice (some ⟨g,0,none⟩) (init.length+1) cc) (init.length+1) ((init++[(⟨.slice A7 rl.length c7,rl⟩:cE)]).map cE.v)):=GR1.out.out
      go_wp2_with (at_builtin;refine bJ rfl _ _ rfl qV HE.out.1 rfl 1 _ rfl (by decide) rfl (by simp[Value.oneCell']) (by omega) G1.out ⟨Nat.le_refl _,G1.out.size⟩ ?_;intro v4 w4 hown4 hg4 hgr4 hb4;have GRL:=Lh (GR1.out.last rfl hown4 hgr4 hb4);have G4:=Lh hg4;have o4:=GH.out.kept hgr4 (.inr (fun e=>HE.out.2.2 e.symm));have f4:=wG o4 init.length;have d4:w4.cell? ⟨g,init.length,none⟩=some (.slice A7 rl.length c7):=(by have:=bH (aB.refl w4) (Rd.own o4) rfl (i:=init.length) (by simp);rw[Nat.zero_add] at this;rw[this];simp);obtain⟨A8,c8,rfl⟩:=aH hown4;clear hown4 hg4 hgr4 hb4 o4 cl)
      go_roundw
      case rel=>
       refine⟨k+1,init.length+1,cc,some ⟨g,0,none⟩,init++[cE.mk (.slice A8 (rl.length+1) c8) (rl++[k])],fi,by omega,by go_num,by omega,?_,rfl,rfl,by omega,GRL.out,?_,?_,G4.out.set (p:=⟨g,init.length,none⟩) ((GH.out.lt g rfl).1) _⟩
       ·show _=_
        simp
       ·refine ST3.out _ ?_
        rw[List.map_append,List.map_append];show (dE (init.map cE.l++[rl]) k,fi)=(init.map cE.l++[rl++[k]],fi);rw[dY]
       ·intro r hr
        rcases List.mem_append.1 hr with hr|hr
        ·exact Nat.le_succ_of_le (hrl.out r (List.mem_append.2 (.inl hr)))
        ·rw[List.mem_singleton.1 hr,List.length_append];simpa using hrb
      case measure=>simp[intOf];omega
  ·obtain rfl:k=ps.length:=by omega
   have hm':=hm.out;subst hm';go_wp2;refine HR.out _ rows _ hgr.out ?_ hg.out;rw[hga.out]
end Go.Proofs.YtjalimkajcjapaaGreatDoor
namespace Go.Proofs.YtjalimkajcjapaaGreatDoor
set_option maxRecDepth 100000
open Go.RowKit B
def inU (h:Hf)(p:PtQ):Bool:=if h.up=true then inQ p.turn.x h.c h.ab else inQ p.x h.c h.ab
theorem half1_u (h:Hf)(a b:PtQ):cR h.c h.up h.ab a b=(if inU h a=true then[a] else[])++(if inU h a≠inU h b then[fC h a b] else[]):=by
 obtain⟨c,up,ab⟩:=h;unfold cR inU fC;dsimp only
 cases up with
 |false=>simp only[Bool.false_eq_true,if_false]
 |true=>
  simp only[if_true];have ht:a.turn.turn=a:=rfl
  split<;>split<;>simp_all
theorem cross_part {h:Hf}{a b:PtQ}(hne:inU h a≠inU h b):∃ s:Rat,0<=s/\s<=1/\(fC h a b).x=a.x+s*(b.x-a.x)/\(fC h a b).y=a.y+s*(b.y-a.y)/\(if h.up=true then a.y≠b.y else a.x≠b.x):=by
 have key:∀ (a b:PtQ) (c:Int) (ab:Bool),inQ a.x c ab≠inQ b.x c ab->∃ s:Rat,0<=s/\s<=1/\(eM a b c).x=a.x+s*(b.x-a.x)/\(eM a b c).y=a.y+s*(b.y-a.y)/\a.x≠b.x:=by
  intro a b c ab h;obtain⟨hn,hb⟩:=lZ h;have hd:b.x-a.x≠0:=fun e=>hn (by grind)
  unfold eM;dsimp only;have hs:(c:Rat)=a.x+((c:Rat)-a.x)/(b.x-a.x)*(b.x-a.x):=by grind
  generalize ((c:Rat)-a.x)/(b.x-a.x)=s at*;refine⟨s,?_,?_,hs,rfl,hn⟩
  ·rw[<-Rat.not_lt]
   intro hn
   rcases hb with ⟨h1,h2⟩|⟨h1,h2⟩
   ·have:=Rat.mul_pos (show 0< -s by grind) (show 0<b.x-a.x by grind)
    grind
   ·have:=Rat.mul_pos (show 0< -s by grind) (show 0<a.x-b.x by grind)
    grind
  ·rw[<-Rat.not_lt]
   intro hn
   rcases hb with ⟨h1,h2⟩|⟨h1,h2⟩
   ·have:=Rat.mul_pos (show 0<s-1 by grind) (show 0<b.x-a.x by grind)
    grind
   ·have:=Rat.mul_pos (show 0<s-1 by grind) (show 0<a.x-b.x by grind)
    grind
 obtain⟨c,up,ab⟩:=h;unfold inU at hne;unfold fC;dsimp only at*
 cases up with
 |false=>
  simp only[Bool.false_eq_true,if_false] at hne ⊢;exact key a b c ab hne
 |true=>
  simp only[if_true] at hne ⊢;obtain⟨s,s0,s1,h1,h2,h3⟩:=key a.turn b.turn c ab hne;exact⟨s,s0,s1,h2,h1,h3⟩
theorem jD {h:Hf}{l:List PtQ}{q:PtQ}(hq:q∈dX h.c h.up h.ab l):inU h q=true/\(q∈l∨∃ a∈l,∃ b∈l,∃ s:Rat,0<=s/\s<=1/\q.x=a.x+s*(b.x-a.x)/\q.y=a.y+s*(b.y-a.y)):=by
 obtain⟨a,ha,b,hb,hx⟩:=pB hq;rw[half1_u] at hx;rcases List.mem_append.1 hx with hx|hx
 ·split at hx
  ·rename_i h1
   rw[List.mem_singleton.1 hx];exact⟨h1,.inl ha⟩
  ·simp at hx
 ·split at hx
  ·rename_i h1
   obtain⟨s,s0,s1,e1,e2,-⟩:=cross_part h1;rw[List.mem_singleton.1 hx];refine⟨?_,.inr ⟨a,ha,b,hb,s,s0,s1,e1,e2⟩⟩;unfold inU fC eM PtQ.turn inQ
   cases h.up<;>cases h.ab<;>simp<;>grind
  ·simp at hx
theorem mW {h:Hf}{l:List PtQ}{lo:Rat}{up:Bool}(hl:∀ q∈l,lo<=(if up=true then q.y else q.x)):∀ q∈dX h.c h.up h.ab l,lo<=(if up=true then q.y else q.x):=by
 intro q hq
 rcases(jD hq).2 with h1|⟨a,ha,b,hb,s,s0,s1,e1,e2⟩
 ·exact hl q h1
 ·have k1:=hl a ha
  have k2:=hl b hb
  cases up<;>simp only[Bool.false_eq_true,if_false,if_true] at k1 k2 ⊢
  ·have a1:=Rat.mul_nonneg s0 (show 0<=b.x-lo by grind)
   have a2:=Rat.mul_nonneg (show 0<=1-s by grind) (show 0<=a.x-lo by grind);grind
  ·have a1:=Rat.mul_nonneg s0 (show 0<=b.y-lo by grind)
   have a2:=Rat.mul_nonneg (show 0<=1-s by grind) (show 0<=a.y-lo by grind);grind
theorem sN {h:Hf}{l:List PtQ}{hi:Rat}{up:Bool}(hl:∀ q∈l,(if up=true then q.y else q.x)<=hi):∀ q∈dX h.c h.up h.ab l,(if up=true then q.y else q.x)<=hi:=by
 intro q hq
 rcases(jD hq).2 with h1|⟨a,ha,b,hb,s,s0,s1,e1,e2⟩
 ·exact hl q h1
 ·have k1:=hl a ha
  have k2:=hl b hb
  cases up<;>simp only[Bool.false_eq_true,if_false,if_true] at k1 k2 ⊢
  ·have a1:=Rat.mul_nonneg s0 (show 0<=hi-b.x by grind)
   have a2:=Rat.mul_nonneg (show 0<=1-s by grind) (show 0<=hi-a.x by grind);grind
  ·have a1:=Rat.mul_nonneg s0 (show 0<=hi-b.y by grind)
   have a2:=Rat.mul_nonneg (show 0<=1-s by grind) (show 0<=hi-a.y by grind);grind
theorem cring_in {l:List Pt}{lo hi:Int}:∀ q∈dO l lo hi,(lo:Rat)<=q.x/\q.x<=(hi:Rat)/\(lo:Rat)<=q.y/\q.y<=(hi:Rat):=by
 intro q hq;unfold dO at hq;generalize l.map Pt.pq=l0 at hq;have c1:∀ q∈dX lo false true l0,(lo:Rat)<=q.x:=fun q hq=>by simpa [inU,inQ] using (jD (h:=⟨lo,false,true⟩) hq).1
 generalize dX lo false true l0=l1 at*
 have c2:∀ q∈dX hi false false l1,(lo:Rat)<=q.x/\q.x<=(hi:Rat):=fun q hq=>⟨by simpa using mW (h:=⟨hi,false,false⟩) (up:=false) (by simpa using c1) q hq,by simpa [inU,inQ] using (jD (h:=⟨hi,false,false⟩) hq).1⟩
 generalize dX hi false false l1=l2 at*
 have c3:∀ q∈dX lo true true l2,(lo:Rat)<=q.x/\q.x<=(hi:Rat)/\(lo:Rat)<=q.y:=fun q hq=>⟨by simpa using mW (h:=⟨lo,true,true⟩) (up:=false) (by simpa using fun q hq=>(c2 q hq).1) q hq,by simpa using sN (h:=⟨lo,true,true⟩) (up:=false) (by simpa using fun q hq=>(c2 q hq).2) q hq,of_decide_eq_true (jD (h:=⟨lo,true,true⟩) hq).1⟩
 generalize dX lo true true l2=l3 at*;refine⟨by simpa using mW (h:=⟨hi,true,false⟩) (up:=false) (by simpa using fun q hq=>(c3 q hq).1) q hq,by simpa using sN (h:=⟨hi,true,false⟩) (up:=false) (by simpa using fun q hq=>(c3 q hq).2.1) q hq,by simpa using mW (h:=⟨hi,true,false⟩) (up:=true) (by simpa using fun q hq=>(c3 q hq).2.2) q hq,of_decide_eq_true (jD (h:=⟨hi,true,false⟩) hq).1⟩
end Go.Proofs.YtjalimkajcjapaaGreatDoor
namespace Go.Proofs.YtjalimkajcjapaaGreatDoor
set_option maxRecDepth 100000
open Go.RowKit Go.Lib B
end Go.Proofs.YtjalimkajcjapaaGreatDoor
namespace Go.Proofs.YtjalimkajcjapaaGreatDoor
set_option maxRecDepth 100000
open Go.RowKit Go.Lib B
set_option maxHeartbeats 4000000 in
theorem vT (ps:List aI)(a:Value)(S S':Nat->Prop)(w:World)(ha:Rd w S 1 a ps.length (ps.map aI.v))(hA:∀ r∈ps,r.rd w S'/\r.l.length<=1000)(hl:ps.length<=1000){R:Ending->World->Prop}
  (hR:∀ r rows w',w'.ownsRow w.heap.size 58 1 r rows.length (rows.map aI.v)->dF w.heap.size w' r rows->rows.map aI.l=eY (ps.map aI.l)->aB w w'->R (.returned r) w'):
  Calls Tryz.prog 39 #[a] w R:=by
 have HR:=Lh hR;clear hR;have ha:=ha.lt (by decide);have HA0:=Lh ha;have HA:=Lh hA;clear hA;obtain⟨_,A,c,rfl,h1,h2,h3,h4⟩:=ha;unfold maxLen at h2;go_enter Tryz.func39,Tryz.ntmps39
 go_wp2
 go_loopw [4,3] (fun i s wr=>∃ (k m:Nat) (rows:List aI),k<=ps.length/\i=.int .i64 k/\m<=k/\Hid (m=rows.length)/\wr.ownsRow w.heap.size 58 1 s m (rows.map aI.v)/\Hid (dF w.heap.size wr s rows)/\Hid (rows.map aI.l=eY ((ps.take k).map aI.l))/\Hid (aB w wr)) (fun i _ _=>ps.length-(Go.RowKit.intOf i).toNat)
 case atStart=>exact⟨0,0,[],Nat.zero_le _,rfl,Nat.le_refl _,rfl,World.ownsRow_nil _ _ _ _,fun r hr=>by simp at hr,rfl,aB.refl _⟩
 case round=>
  obtain⟨k,m,rows,hk,rfl,hmk,hm,hown,hin,hls,hg⟩:=hrel
  by_cases hlt:k<ps.length
  ·obtain⟨b,o,rfl,-,-⟩:=h4 (by omega)
   have c1:wr.cell? ⟨b,o+k,none⟩=some (ps[k]'hlt).v:=by
    have:=bH hg.out HA0.out rfl (i:=k) (by simpa using hlt);rw[List.getElem_map] at this;exact this
   have r1:=HA.out (ps[k]'hlt) (List.getElem_mem hlt);have LS:=Lh (wP hlt);have HO:=Lh hown;clear h3 h4 hown;generalize ps[k]'hlt=p at*;obtain⟨v,l⟩:=p;dsimp only at*;obtain⟨r1,hl1⟩:=r1;unfold aI.rd at r1;dsimp only at r1;have r1:=Lh (r1.gr (by decide) hg.out);go_wp2_with fail
   clear c1;refine oG l false v _ wr r1.out (by omega) ?_;intro q2 w2 hown2 hg2;have G2:=Lh (hg.out.tr hg2);have HO2:=Lh (aJ HO.out hg2);have IN2:=Lh (hin.out.grow hg2)
   have NEW:Hid (dF w.heap.size w2 u3 [⟨q2,bU l false⟩]):=fun r hr=>by
    rw[List.mem_singleton.1 hr]
    refine(Rd.own_from hown2).into fun b hb=>⟨?_,by have:=hg.out.size;omega⟩
    intro e;have:=(HO.out.lt b e.symm).2;omega
   clear HO r1;generalize bU l false=L at*;obtain⟨_,A2,c2,rfl,x1,x2,x3,-⟩:=Rd.own hown2;unfold maxLen at x2;clear hg2 hown2
   by_cases h2:2<=L.length
   ·have LS2:Hid (eY ((ps.take (k+1)).map aI.l)=eY ((ps.take k).map aI.l)++[L]):=by have:=LS.out;rw[if_pos h2] at this;exact this
    go_wp2_with (at_builtin;refine bJ rfl _ _ rfl fY HO2.out rfl 1 _ rfl (by decide) rfl (by simp[Value.oneCell']) (by omega) G2.out ⟨Nat.le_refl _,G2.out.size⟩ ?_;intro v1 w4 hown4 hg4 hgr4 hb4;have HG4:=Lh hg4;have HO4:=Lh hown4;have IN4:=Lh (IN2.out.app NEW.out hgr4 hb4 (Nat.le_succ _));clear hg4 hgr4 hb4 hown4)
    go_roundw
    case rel=>exact⟨k+1,m+1,rows++[aI.mk (.slice A2 L.length c2) L],by omega,by go_num,by omega,by rw[List.length_append,<-hm.out];rfl,by rw[List.map_append];exact HO4.out,IN4.out,by rw[LS2.out,List.map_append,hls.out];rfl,HG4.out⟩
    case measure=>simp[Go.RowKit.intOf];omega
   ·have LS2:Hid (eY ((ps.take (k+1)).map aI.l)=eY ((ps.take k).map aI.l)):=by have:=LS.out;rw[if_neg h2,List.append_nil] at this;exact this
    go_wp2;go_roundw
    case rel=>exact⟨k+1,m,rows,by omega,by go_num,by omega,hm.out,HO2.out,IN2.out,by rw[LS2.out];exact hls.out,G2.out⟩
    case measure=>simp[Go.RowKit.intOf];omega
  ·obtain rfl:k=ps.length:=by omega
   have hm':=hm.out;subst hm';go_wp2;refine HR.out _ rows _ hown hin.out ?_ hg.out;rw[hls.out,List.take_length]
theorem sG {f:Fr}(h:f.right=true):f.round=nP f.val:=by
 have a:=fun n=>(round_iff h n).symm.trans (oW f.val n)
 have h1:=(a f.round).1 (Int.le_refl _);have h2:=(a (nP f.val)).2 (Int.le_refl _);omega
theorem spot_rnd {s:aW}(h:s.rt):s.round=fN s.pq:=by
 unfold aW.round fN aW.pq;rw[sG h.1,sG h.2]
theorem rX {l:List aW}(h:∀ s∈l,s.rt):l.map aW.round=(l.map aW.pq).map fN:=by
 rw[List.map_map];exact List.map_congr_left fun s hs=>spot_rnd (h s hs)
theorem pU {z:Zm}{e:Int}{l:List Pt}(hz:aS z e=true)(hb:∀ p∈l,(-1048576<=p.x/\p.x<=1048576)/\-1048576<=p.y/\p.y<=1048576):cY (l.map (scl z e)) (-z.b) (e+z.b)=0:=by
 obtain⟨h1,h2,-,-,h5,h6,-⟩:=bA hz
 have hf:∀ p∈l.map (scl z e),p.far=false:=by
  intro p hp;obtain⟨q,hq,rfl⟩:=List.mem_map.1 hp;exact scl_far hz (hb q hq).1 (hb q hq).2
 refine lX.2 ⟨by omega,?_,?_,hf⟩
 ·unfold inw;rw[decide_eq_true (show -4503599627370496<=-z.b by omega),decide_eq_true (show -z.b<=4503599627370496 by omega)];rfl
 ·unfold inw;rw[decide_eq_true (show -4503599627370496<=e+z.b by omega),decide_eq_true (show e+z.b<=4503599627370496 by omega)];rfl
theorem ringL_q {z:Zm}{e:Int}{l:List Pt}(hz:aS z e=true)(hb:∀ p∈l,(-1048576<=p.x/\p.x<=1048576)/\-1048576<=p.y/\p.y<=1048576):jZ z e l=bU ((dO (l.map (scl z e)) (-z.b) (e+z.b)).map fN) true:=by
 have he:=pU hz hb;obtain⟨e1,e2⟩:=ring_law he;unfold jZ eV;rw[if_pos he,rX e2,e1]
theorem xN (l:List Pt)(lo hi:Int):(dO l lo hi).length<=16*l.length:=by
 unfold dO;have h1:=fX lo false true (l.map Pt.pq);have h2:=fX hi false false (dX lo false true (l.map Pt.pq));have h3:=fX lo true true (dX hi false false (dX lo false true (l.map Pt.pq)));have h4:=fX hi true false (dX lo true true (dX hi false false (dX lo false true (l.map Pt.pq))));rw[List.length_map] at h1;omega
theorem lineL_q {z:Zm}{e:Int}{l:List Pt}(hz:aS z e=true)(hb:∀ p∈l,(-1048576<=p.x/\p.x<=1048576)/\-1048576<=p.y/\p.y<=1048576):iN z e l=eY ((oO (l.map (scl z e)) (-z.b) (e+z.b)).map (List.map fN)):=by
 have he:=pU hz hb;obtain⟨e1,e2⟩:=nG he;unfold iN cF eY;rw[<-e1,List.map_map,List.map_map];congr 1
 refine List.map_congr_left fun part hp=>?_
 show bU (part.map aW.round) false=bU ((part.map aW.pq).map fN) false;rw[rX (e2 part hp)]
end Go.Proofs.YtjalimkajcjapaaGreatDoor
