import Derived.Test.YtjalimkajcjapaaGreatDoorRowsA
namespace Go.Proofs.YtjalimkajcjapaaGreatDoor
set_option maxRecDepth 100000
open Go.RowKit
def inm (n:Int):Bool:=decide (-1048576<=n)&&decide (n<=1048576)
set_option maxHeartbeats 400000 in
theorem oX (n:Int)(w:World){R:Ending->World->Prop}(hR:R (.returned (.bool (inm n))) w):Calls Tryz.prog 43 #[.int .i64 n] w R:=by
 have HR:∀ b,inm n=b->R (.returned (.bool b)) w:=by rintro b rfl;exact hR
 have HR:=Lh HR;clear hR
 by_cases h:-1048576<=n
 ·have t1:decide (-1048576<=n)=true:=by simp[h]
  go_enter Tryz.func43,Tryz.ntmps43
  go_wp2;simp_all [inm]<;>omega
 ·have t1:decide (-1048576<=n)=false:=by simp;omega
  go_enter Tryz.func43,Tryz.ntmps43
  go_wp2;simp_all [inm]<;>omega
set_option maxHeartbeats 400000 in
theorem mP (n:Int)(w:World){R:Ending->World->Prop}(hR:R (.returned (.bool (!inm n))) w):Calls Tryz.prog 44 #[.int .i64 n] w R:=by
 have HR1:∀ b,(!inm n)=b->R (.returned (.bool b)) w:=by rintro b rfl;exact hR
 have HR:=Lh HR1;clear hR HR1
 by_cases h:n< -1048576
 ·have t1:decide (n< -1048576)=true:=by simp[h]
  go_enter Tryz.func44,Tryz.ntmps44
  go_wp2;refine HR.out _ ?_;simp[inm];omega
 ·have t1:decide (n< -1048576)=false:=by simp;omega
  go_enter Tryz.func44,Tryz.ntmps44
  go_wp2;refine HR.out _ ?_;simp only[inm]
  by_cases h2:n<=1048576
  ·have a1:decide (-1048576<=n)=true:=by simp;omega
   have a2:decide (n<=1048576)=true:=by simp;omega
   have a3:decide (1048576<n)=false:=by simp;omega
   rw[a1,a2,a3];rfl
  ·have a2:decide (n<=1048576)=false:=by simp;omega
   have a3:decide (1048576<n)=true:=by simp;omega
   rw[a2,a3,Bool.and_false];rfl
def Pt.off (p:Pt):Bool:=!inm p.x||!inm p.y
def eX (l:List Pt):Bool:=l.any Pt.off
def dL (l:List aI):Bool:=l.any fun r=>eX r.l
def aT (kind:Int)(ps:List aI):Int:=
 if kind<1∨3<kind then 1 else if ps.length=0∨(kind=1/\1<ps.length) then 3 else if ∃ r∈ps,(r.l.length:Int)<kind then 3 else if dL ps then 8 else 0
def fK (b:Bool):Int:=if b then 8 else 0
theorem dA {α:Type}(f:α->Bool){l:List α}{k:Nat}(hk:k<l.length):(l.take (k+1)).any f=((l.take k).any f||f l[k]):=by
 rw[List.take_succ_eq_append_getElem hk,List.any_append];simp
set_option maxHeartbeats 4000000 in
theorem eW (kind:Int)(a:Value)(A:List aI)(S S':Nat->Prop)(w:World)(ha:Rd w S 1 a A.length (A.map aI.v))(hA:∀ r∈A,r.rd w S'){R:Ending->World->Prop}
  (hR:∀ w',aB w w'->R (.returned (.int .i64 (aT kind A))) w'):
  Calls Tryz.prog 22 #[.int .i64 kind,a] w R:=by
 have HR1:∀ n w',aT kind A=n->aB w w'->R (.returned (.int .i64 n)) w':=by rintro n w' rfl h;exact hR _ h
 have HR:=Lh HR1;clear hR HR1;have HA0:=Lh ha;obtain⟨_,A0,c,rfl,h1,h2,h3,h4⟩:=ha;have HA:=Lh hA;unfold maxLen at h2;clear hA h3
 by_cases hk1:1<=kind
 ·by_cases hk3:kind<=3
  ·have hkk:¬ (kind<1∨3<kind):=by omega
   by_cases hl0:A.length=0
   ·have t1:((A.length:Int)==0)=true:=by rw[hl0];rfl
    have HF:Hid (aT kind A=3):=by show _=_;unfold aT;rw[if_neg hkk,if_pos (.inl hl0)]
    have HL0:=Lh hl0;clear hl0;go_enter Tryz.func22,Tryz.ntmps22
    go_wp2;exact HR.out _ _ HF.out (aB.refl _)
   ·have t1:((A.length:Int)==0)=false:=by rw[beq_eq_false_iff_ne];omega
    by_cases hm:kind=1/\1<A.length
    ·obtain⟨rfl,hm⟩:=hm
     have HF:Hid (aT 1 A=3):=by show _=_;unfold aT;rw[if_neg hkk,if_pos (.inr ⟨rfl,hm⟩)]
     go_enter Tryz.func22,Tryz.ntmps22
     go_wp2;exact HR.out _ _ HF.out (aB.refl _)
    ·have hg2:(kind==1)=false∨(kind=1/\¬ 1<A.length):=by
      by_cases e:kind=1
      ·exact .inr ⟨e,fun h=>hm ⟨e,h⟩⟩
      ·exact .inl (by simpa using e)
     have HS:Hid ((∃ r∈A,(r.l.length:Int)<kind)->aT kind A=3):=by
      intro h;unfold aT;rw[if_neg hkk,if_neg (by rintro(h|h);exact hl0 h;exact hm h),if_pos h]
     have HD:Hid ((∀ r∈A,kind<=(r.l.length:Int))->aT kind A=fK (dL A)):=by
      intro h;unfold aT fK;rw[if_neg hkk,if_neg (by rintro(h|h);exact hl0 h;exact hm h),if_neg (by rintro⟨r,hr,h2⟩;have:=h r hr;omega)]
     clear hm
     rcases hg2 with t2|⟨rfl,h11⟩
     ·go_enter Tryz.func22,Tryz.ntmps22
      go_wp2
      try clear t2
      clear t1
      go_loopw [29,5] (fun i s wr=>∃ (k:Nat),k<=A.length/\i=.int .i64 k/\s=.int .i64 (fK (dL (A.take k)))/\Hid (∀ r∈A.take k,kind<=(r.l.length:Int))/\Hid (aB w wr)) (fun i _ _=>A.length-(intOf i).toNat)
      case atStart=>exact⟨0,Nat.zero_le _,rfl,rfl,fun r hr=>by simp at hr,aB.refl _⟩
      case round=>
       obtain⟨k,hk,rfl,rfl,hmin,hg⟩:=hrel
       by_cases hlt:k<A.length
       ·obtain⟨b1,o1,rfl,-,-⟩:=h4 (by omega)
        have c1:wr.cell? ⟨b1,o1+k,none⟩=some (A[k]'hlt).v:=by
         have:=bH hg.out HA0.out rfl (i:=k) (by simpa using hlt);rw[List.getElem_map] at this;exact this
        have r1:=HA.out (A[k]'hlt) (List.getElem_mem hlt)
        have MN:Hid (kind<=((A[k]'hlt).l.length:Int)->∀ r∈A.take (k+1),kind<=(r.l.length:Int)):=by
         intro h r hr;rw[List.take_succ_eq_append_getElem hlt] at hr;rcases List.mem_append.1 hr with hr|hr
         ·exact hmin.out r hr
         ·rw[List.mem_singleton.1 hr];exact h
        have OF:Hid (dL (A.take (k+1))=(dL (A.take k)||eX (A[k]'hlt).l)):=dA _ hlt
        have SH:Hid (((A[k]'hlt).l.length:Int)<kind->∃ r∈A,(r.l.length:Int)<kind):=fun h=>⟨_,List.getElem_mem hlt,h⟩
        clear h4 hmin;generalize A[k]'hlt=ra at*;obtain⟨v1,l1⟩:=ra;unfold aI.rd at r1;dsimp only at*;have r1:=(r1.gr2 (by decide) hg.out).lt (by decide);obtain⟨_,X,cx,rfl,x1,x2,-,x4⟩:=r1;unfold maxLen at x2;generalize dL (A.take k)=ob at*
        by_cases hsh:(l1.length:Int)<kind
        ·have SH2:=Lh (SH.out hsh)
         go_wp2;exact HR.out _ _ (HS.out SH2.out) hg.out
        ·have MN2:=Lh (MN.out (by omega))
         clear MN SH;go_wp2
         go_loopw [40,5] (fun i s wz=>∃ (j:Nat),j<=l1.length/\i=.int .i64 j/\s=.int .i64 (fK (ob||eX (l1.take j)))/\Hid (aB wr wz)) (fun i _ _=>l1.length-(intOf i).toNat)
         case atStart=>exact⟨0,Nat.zero_le _,rfl,by simp[eX],aB.refl _⟩
         case round=>
          obtain⟨j,hj,rfl,rfl,hgz⟩:=hrel
          by_cases hjl:j<l1.length
          ·obtain⟨b3,o3,rfl,hb3,hc3⟩:=x4 (by omega)
           have e1:=aL Pt.cells_len hgz.out hb3 hc3 hjl
           have OG:Hid ((ob||eX (l1.take (j+1)))=((ob||eX (l1.take j))||(l1[j]'hjl).off)):=by
            show _=_;rw[Bool.or_assoc];exact congrArg (ob||·) (dA _ hjl)
           clear hc3 x4;generalize (ob||eX (l1.take j))=ov at*;generalize l1[j]'hjl=x at*;obtain⟨p1,p2⟩:=x;have d1:=e1 0 _ rfl;have d2:=e1 1 _ rfl;simp only[Nat.add_zero] at d1;clear e1;have G2:=Lh (hgz.out.al (.cells #[.int .i64 p1,.int .i64 p2] 51));have HI1:=Lh fun W (R:Ending->World->Prop) hR=>oX p1 W (R:=R) hR
           have HI2:=Lh fun W (R:Ending->World->Prop) hR=>oX p2 W (R:=R) hR
           have OF2:Hid (Pt.off ⟨p1,p2⟩=(!inm p1||!inm p2)):=rfl;generalize inm p1=i1 at*;generalize inm p2=i2 at*
           cases i1 with
           |false=>
            go_wp2_with (go_at_call 43;refine HI1.out _ _ ?_)
            go_roundw
            case rel=>exact⟨j+1,by omega,by go_num,by rw[OG.out,OF2.out];simp[fK],G2.out⟩
            case measure=>simp[intOf];omega
           |true=>
            cases i2 with
            |false=>
             go_wp2_with (go_at_call 43;first|(refine HI1.out _ _ ?_)|(refine HI2.out _ _ ?_))
             go_roundw
             case rel=>exact⟨j+1,by omega,by go_num,by rw[OG.out,OF2.out];simp[fK],G2.out⟩
             case measure=>simp[intOf];omega
            |true=>
             go_wp2_with (go_at_call 43;first|(refine HI1.out _ _ ?_)|(refine HI2.out _ _ ?_))
             go_roundw
             case rel=>exact⟨j+1,by omega,by go_num,by rw[OG.out,OF2.out];simp,G2.out⟩
             case measure=>simp[intOf];omega
          ·obtain rfl:j=l1.length:=by omega
           rw[List.take_length];have OF2:Hid (fK (dL (A.take (k+1)))=fK (ob||eX l1)):=by show _=_;rw[OF.out]
           generalize fK (ob||eX l1)=ev at*;go_wp2;go_roundw
           case rel=>(repeat apply Exists.intro);refine⟨⟨k+1,by omega,?_,by rw[OF2.out],MN2.out,hg.out.tr hgz.out⟩,?_⟩;rotate_left;exact rfl;go_num
           case measure=>simp[intOf];omega
       ·obtain rfl:k=A.length:=by omega
        rw[List.take_length] at hmin;rw[List.take_length];generalize fK (dL A)=ev at*;go_wp2;exact HR.out _ _ (HD.out hmin.out) hg.out
     ·go_enter Tryz.func22,Tryz.ntmps22
      go_wp2
      try clear t2
      clear t1
      go_loopw [29,5] (fun i s wr=>∃ (k:Nat),k<=A.length/\i=.int .i64 k/\s=.int .i64 (fK (dL (A.take k)))/\Hid (∀ r∈A.take k,1<=(r.l.length:Int))/\Hid (aB w wr)) (fun i _ _=>A.length-(intOf i).toNat)
      case atStart=>exact⟨0,Nat.zero_le _,rfl,rfl,fun r hr=>by simp at hr,aB.refl _⟩
      case round=>
       obtain⟨k,hk,rfl,rfl,hmin,hg⟩:=hrel
       by_cases hlt:k<A.length
       ·obtain⟨b1,o1,rfl,-,-⟩:=h4 (by omega)
        have c1:wr.cell? ⟨b1,o1+k,none⟩=some (A[k]'hlt).v:=by
         have:=bH hg.out HA0.out rfl (i:=k) (by simpa using hlt);rw[List.getElem_map] at this;exact this
        have r1:=HA.out (A[k]'hlt) (List.getElem_mem hlt)
        have MN:Hid (1<=((A[k]'hlt).l.length:Int)->∀ r∈A.take (k+1),1<=(r.l.length:Int)):=by
         intro h r hr;rw[List.take_succ_eq_append_getElem hlt] at hr;rcases List.mem_append.1 hr with hr|hr
         ·exact hmin.out r hr
         ·rw[List.mem_singleton.1 hr];exact h
        have OF:Hid (dL (A.take (k+1))=(dL (A.take k)||eX (A[k]'hlt).l)):=dA _ hlt
        have SH:Hid (((A[k]'hlt).l.length:Int)<1->∃ r∈A,(r.l.length:Int)<1):=fun h=>⟨_,List.getElem_mem hlt,h⟩
        clear h4 hmin;generalize A[k]'hlt=ra at*;obtain⟨v1,l1⟩:=ra;unfold aI.rd at r1;dsimp only at*;have r1:=(r1.gr2 (by decide) hg.out).lt (by decide);obtain⟨_,X,cx,rfl,x1,x2,-,x4⟩:=r1;unfold maxLen at x2;generalize dL (A.take k)=ob at*
        by_cases hsh:(l1.length:Int)<1
        ·have SH2:=Lh (SH.out hsh)
         go_wp2;exact HR.out _ _ (HS.out SH2.out) hg.out
        ·have MN2:=Lh (MN.out (by omega))
         clear MN SH;go_wp2
         go_loopw [40,5] (fun i s wz=>∃ (j:Nat),j<=l1.length/\i=.int .i64 j/\s=.int .i64 (fK (ob||eX (l1.take j)))/\Hid (aB wr wz)) (fun i _ _=>l1.length-(intOf i).toNat)
         case atStart=>exact⟨0,Nat.zero_le _,rfl,by simp[eX],aB.refl _⟩
         case round=>
          obtain⟨j,hj,rfl,rfl,hgz⟩:=hrel
          by_cases hjl:j<l1.length
          ·obtain⟨b3,o3,rfl,hb3,hc3⟩:=x4 (by omega)
           have e1:=aL Pt.cells_len hgz.out hb3 hc3 hjl
           have OG:Hid ((ob||eX (l1.take (j+1)))=((ob||eX (l1.take j))||(l1[j]'hjl).off)):=by
            show _=_;rw[Bool.or_assoc];exact congrArg (ob||·) (dA _ hjl)
           clear hc3 x4;generalize (ob||eX (l1.take j))=ov at*;generalize l1[j]'hjl=x at*;obtain⟨p1,p2⟩:=x;have d1:=e1 0 _ rfl;have d2:=e1 1 _ rfl;simp only[Nat.add_zero] at d1;clear e1;have G2:=Lh (hgz.out.al (.cells #[.int .i64 p1,.int .i64 p2] 51));have HI1:=Lh fun W (R:Ending->World->Prop) hR=>oX p1 W (R:=R) hR
           have HI2:=Lh fun W (R:Ending->World->Prop) hR=>oX p2 W (R:=R) hR
           have OF2:Hid (Pt.off ⟨p1,p2⟩=(!inm p1||!inm p2)):=rfl;generalize inm p1=i1 at*;generalize inm p2=i2 at*
           cases i1 with
           |false=>
            go_wp2_with (go_at_call 43;refine HI1.out _ _ ?_)
            go_roundw
            case rel=>exact⟨j+1,by omega,by go_num,by rw[OG.out,OF2.out];simp[fK],G2.out⟩
            case measure=>simp[intOf];omega
           |true=>
            cases i2 with
            |false=>
             go_wp2_with (go_at_call 43;first|(refine HI1.out _ _ ?_)|(refine HI2.out _ _ ?_))
             go_roundw
             case rel=>exact⟨j+1,by omega,by go_num,by rw[OG.out,OF2.out];simp[fK],G2.out⟩
             case measure=>simp[intOf];omega
            |true=>
             go_wp2_with (go_at_call 43;first|(refine HI1.out _ _ ?_)|(refine HI2.out _ _ ?_))
             go_roundw
             case rel=>exact⟨j+1,by omega,by go_num,by rw[OG.out,OF2.out];simp,G2.out⟩
             case measure=>simp[intOf];omega
          ·obtain rfl:j=l1.length:=by omega
           rw[List.take_length];have OF2:Hid (fK (dL (A.take (k+1)))=fK (ob||eX l1)):=by show _=_;rw[OF.out]
           generalize fK (ob||eX l1)=ev at*;go_wp2;go_roundw
           case rel=>(repeat apply Exists.intro);refine⟨⟨k+1,by omega,?_,by rw[OF2.out],MN2.out,hg.out.tr hgz.out⟩,?_⟩;rotate_left;exact rfl;go_num
           case measure=>simp[intOf];omega
       ·obtain rfl:k=A.length:=by omega
        rw[List.take_length] at hmin;rw[List.take_length];generalize fK (dL A)=ev at*;go_wp2;exact HR.out _ _ (HD.out hmin.out) hg.out
  ·have HF:Hid (aT kind A=1):=by show _=_;unfold aT;rw[if_pos (by omega)]
   clear h4;go_enter Tryz.func22,Tryz.ntmps22
   go_wp2;exact HR.out _ _ HF.out (aB.refl _)
 ·have HF:Hid (aT kind A=1):=by show _=_;unfold aT;rw[if_pos (by omega)]
  clear h4;go_enter Tryz.func22,Tryz.ntmps22
  go_wp2;exact HR.out _ _ HF.out (aB.refl _)
theorem vY {w W:World}{S:Nat->Prop}{b o c:Nat}{l:List Pt}(hW:aB w W)(h:Rd w S 2 (.slice (some ⟨b,o,none⟩) l.length c) l.length (Pts l)){i:Nat}(hi:i<l.length):
  W.cell? ⟨b,o+i*2,none⟩=some (.int .i64 l[i].x)/\W.cell? ⟨b,o+i*2+1,none⟩=some (.int .i64 l[i].y):=by
 obtain⟨_,A',c',hv,h1,h2,h3,h4⟩:=h;injection hv with e1 _ e2
 obtain⟨b',o',e,hS,hc⟩:=h4 (by omega);rw[e] at e1;injection e1 with e1
 injection e1 with e1 e3
 subst e1 e3;have hb:b<w.heap.size:=World.block_lt_of_cell? w _ (hc 0 _ (List.getElem?_eq_getElem (by rw[jR];omega)));have e:=aL Pt.cells_len hW hb hc hi;exact⟨e 0 _ rfl,e 1 _ rfl⟩
set_option maxHeartbeats 4000000 in
theorem kL (kind:Int)(a:Value)(A:List aI)(S S':Nat->Prop)(w:World)(ha:Rd w S 1 a A.length (A.map aI.v))(hA:∀ r∈A,r.rd w S'){R:Ending->World->Prop}
  (hR:∀ w',aB w w'->R (.returned (.int .i64 (aT kind A))) w'):
  Calls Tryz.prog 23 #[.int .i64 kind,a] w R:=by
 have HR1:∀ n w',aT kind A=n->aB w w'->R (.returned (.int .i64 n)) w':=by rintro n w' rfl h;exact hR _ h
 have HR:=Lh HR1;clear hR HR1;have HA0:=Lh ha;obtain⟨_,A0,c,rfl,h1,h2,h3,h4⟩:=ha;have HA:=Lh hA;unfold maxLen at h2;clear hA h3
 by_cases hkk:kind<1∨3<kind
 ·have HF:Hid (aT kind A=1):=by show _=_;unfold aT;rw[if_pos hkk]
  by_cases g1:kind<1
  ·have t1:decide (kind<1)=true:=decide_eq_true g1
   clear hkk g1;go_enter Tryz.func23,Tryz.ntmps23
   go_wp2;exact HR.out _ _ HF.out (aB.refl w)
  ·have t1:decide (kind<1)=false:=decide_eq_false g1
   have t2:decide (3<kind)=true:=decide_eq_true (by omega);clear hkk g1;go_enter Tryz.func23,Tryz.ntmps23
   go_wp2;exact HR.out _ _ HF.out (aB.refl w)
 ·have u1:decide (kind<1)=false:=decide_eq_false (by omega)
  have u2:decide (3<kind)=false:=decide_eq_false (by omega)
  by_cases hl0:A.length=0
  ·have t1:((A.length:Int)==0)=true:=by rw[hl0];rfl
   have HF:Hid (aT kind A=3):=by show _=_;unfold aT;rw[if_neg hkk,if_pos (.inl hl0)]
   clear hl0 hkk;go_enter Tryz.func23,Tryz.ntmps23
   go_wp2;exact HR.out _ _ HF.out (aB.refl _)
  ·have t1:((A.length:Int)==0)=false:=by rw[beq_eq_false_iff_ne];omega
   by_cases hm:kind=1/\1<A.length
   ·have t2:(kind==1)=true:=by rw[beq_iff_eq];exact hm.1
    have t3:((A.length:Int) != 1)=true:=by rw[bne_iff_ne];omega
    have HF:Hid (aT kind A=3):=by show _=_;unfold aT;rw[if_neg hkk,if_pos (.inr hm)]
    clear hl0 hkk hm;go_enter Tryz.func23,Tryz.ntmps23
    go_wp2;exact HR.out _ _ HF.out (aB.refl _)
   ·have hg2:(kind==1)=false∨((kind==1)=true/\((A.length:Int) != 1)=false):=by
     by_cases e:kind=1
     ·exact .inr ⟨by rw[beq_iff_eq];exact e,by rw[bne_eq_false_iff_eq];have:¬ 1<A.length:=fun h=>hm ⟨e,h⟩;omega⟩
     ·exact .inl (by simpa using e)
    have HS:Hid ((∃ r∈A,(r.l.length:Int)<kind)->aT kind A=3):=by
     intro h;unfold aT;rw[if_neg hkk,if_neg (by rintro(h|h);exact hl0 h;exact hm h),if_pos h]
    have HD:Hid ((∀ r∈A,kind<=(r.l.length:Int))->aT kind A=fK (dL A)):=by
     intro h;unfold aT fK;rw[if_neg hkk,if_neg (by rintro(h|h);exact hl0 h;exact hm h),if_neg (by rintro⟨r,hr,h2⟩;have:=h r hr;omega)]
    clear hm hkk
    rcases hg2 with t2|⟨t2,t3⟩
    ·go_enter Tryz.func23,Tryz.ntmps23
     go_wp2
     try clear t2
     try clear t3
     clear t1 u1 u2
     go_loopw [5] (fun i wr=>∃ (k:Nat),k<=A.length/\i=.int .i64 k/\Hid (∀ r∈A.take k,kind<=(r.l.length:Int))/\Hid (aB w wr)) (fun i _=>A.length-(intOf i).toNat)
     case atStart=>exact⟨0,Nat.zero_le _,rfl,fun r hr=>by simp at hr,aB.refl _⟩
     case round=>
      obtain⟨k,hk,rfl,hmin,hg⟩:=hrel
      by_cases hlt:k<A.length
      ·obtain⟨b1,o1,rfl,-,-⟩:=h4 (by omega)
       have c1:wr.cell? ⟨b1,o1+k,none⟩=some (A[k]'hlt).v:=by
        have:=bH hg.out HA0.out rfl (i:=k) (by simpa using hlt);rw[List.getElem_map] at this;exact this
       have r1:=HA.out (A[k]'hlt) (List.getElem_mem hlt)
       have MN:Hid (kind<=((A[k]'hlt).l.length:Int)->∀ r∈A.take (k+1),kind<=(r.l.length:Int)):=by
        intro h r hr;rw[List.take_succ_eq_append_getElem hlt] at hr;rcases List.mem_append.1 hr with hr|hr
        ·exact hmin.out r hr
        ·rw[List.mem_singleton.1 hr];exact h
       have SH:Hid (((A[k]'hlt).l.length:Int)<kind->∃ r∈A,(r.l.length:Int)<kind):=fun h=>⟨_,List.getElem_mem hlt,h⟩
       clear h4 hmin;generalize A[k]'hlt=ra at*;obtain⟨v1,l1⟩:=ra;unfold aI.rd at r1;dsimp only at*;obtain⟨_,X,cx,rfl,x1,x2,-,-⟩:=r1;unfold maxLen at x2
       by_cases hsh:(l1.length:Int)<kind
       ·have SH2:=Lh (SH.out hsh)
        have t5:decide ((l1.length:Int)<kind)=true:=decide_eq_true hsh;clear hsh;go_wp2;exact HR.out _ _ (HS.out SH2.out) hg.out
       ·have MN2:=Lh (MN.out (by omega))
        have t5:decide ((l1.length:Int)<kind)=false:=decide_eq_false hsh;clear MN SH hsh;go_wp2;go_roundw
        case rel=>exact⟨k+1,by omega,by go_num,MN2.out,hg.out⟩
        case measure=>simp[intOf];omega
      ·obtain rfl:k=A.length:=by omega
       rw[List.take_length] at hmin;have HD2:=Lh (HD.out hmin.out);clear hmin;go_wp2
       go_loopw [6] (fun i wz=>∃ (k:Nat),k<=A.length/\i=.int .i64 k/\Hid (dL (A.take k)=false)/\Hid (aB w wz)) (fun i _=>A.length-(intOf i).toNat)
       case atStart=>exact⟨0,Nat.zero_le _,rfl,(show dL []=false from rfl),hg.out⟩
       case round=>
        obtain⟨k,hk,rfl,hof,hgz⟩:=hrel
        by_cases hlt:k<A.length
        ·obtain⟨b1,o1,rfl,-,-⟩:=h4 (by omega)
         have C1:Hid (∀ W,aB w W->W.cell? ⟨b1,o1+k,none⟩=some (A[k]'hlt).v):=fun W hW=>by
          have:=bH hW HA0.out rfl (i:=k) (by simpa using hlt);rw[List.getElem_map] at this;exact this
         have r1:=HA.out (A[k]'hlt) (List.getElem_mem hlt);have OF:Hid (dL (A.take (k+1))=(dL (A.take k)||eX (A[k]'hlt).l)):=dA _ hlt;have OB:Hid (eX (A[k]'hlt).l=true->dL A=true):=fun h=>List.any_eq_true.2 ⟨_,List.getElem_mem hlt,h⟩
         clear h4;generalize A[k]'hlt=ra at*;obtain⟨v1,l1⟩:=ra;unfold aI.rd at r1;dsimp only at*;have RR:=Lh r1;obtain⟨_,X,cx,rfl,x1,x2,-,x4⟩:=r1;unfold maxLen at x2;go_wp2
         go_loopw [7] (fun i wy=>∃ (j:Nat),j<=l1.length/\i=.int .i64 j/\Hid (eX (l1.take j)=false)/\Hid (aB w wy)) (fun i _=>l1.length-(intOf i).toNat)
         case atStart=>exact⟨0,Nat.zero_le _,rfl,(show eX []=false from rfl),hgz.out⟩
         case round=>
          obtain⟨j,hj,rfl,hoj,hgy⟩:=hrel;have c1:=C1.out _ hgy.out
          by_cases hjl:j<l1.length
          ·obtain⟨b3,o3,rfl,-,-⟩:=x4 (by omega)
           obtain⟨d1,d2⟩:=vY hgy.out RR.out hjl;have OG:Hid (eX (l1.take (j+1))=(eX (l1.take j)||(l1[j]'hjl).off)):=dA _ hjl;have OJ:Hid ((l1[j]'hjl).off=true->eX l1=true):=fun h=>List.any_eq_true.2 ⟨_,List.getElem_mem hjl,h⟩
           clear x4;generalize l1[j]'hjl=x at*;obtain⟨p1,p2⟩:=x;dsimp only at d1 d2;have HI1:=Lh fun W (R:Ending->World->Prop) hR=>mP p1 W (R:=R) hR
           have HI2:=Lh fun W (R:Ending->World->Prop) hR=>mP p2 W (R:=R) hR
           have OF2:Hid (Pt.off ⟨p1,p2⟩=(!inm p1||!inm p2)):=rfl;generalize inm p1=i1 at*;generalize inm p2=i2 at*
           cases i1 with
           |false=>
            have HP:Hid (aT kind A=8):=by show _=_;rw[HD2.out,OB.out (OJ.out (by rw[OF2.out];rfl))];rfl
            go_wp2_with (go_at_call 44;refine HI1.out _ _ ?_)
            exact HR.out _ _ HP.out hgy.out
           |true=>
            cases i2 with
            |false=>
             have HP:Hid (aT kind A=8):=by show _=_;rw[HD2.out,OB.out (OJ.out (by rw[OF2.out];rfl))];rfl
             go_wp2_with (go_at_call 44;first|(refine HI1.out _ _ ?_)|(refine HI2.out _ _ ?_))
             exact HR.out _ _ HP.out hgy.out
            |true=>
             go_wp2_with (go_at_call 44;first|(refine HI1.out _ _ ?_)|(refine HI2.out _ _ ?_))
             go_roundw
             case rel=>exact⟨j+1,by omega,by go_num,by show _=_;rw[OG.out,OF2.out,hoj.out];rfl,hgy.out⟩
             case measure=>simp[intOf];omega
          ·obtain rfl:j=l1.length:=by omega
           rw[List.take_length] at hoj;go_wp2;go_roundw
           case rel=>exact⟨k+1,by omega,by go_num,by show _=_;rw[OF.out,hof.out,hoj.out];rfl,hgy.out⟩
           case measure=>simp[intOf];omega
        ·obtain rfl:k=A.length:=by omega
         rw[List.take_length] at hof;have HP:Hid (aT kind A=0):=by show _=_;rw[HD2.out,hof.out];rfl
         go_wp2;exact HR.out _ _ HP.out hgz.out
    ·go_enter Tryz.func23,Tryz.ntmps23
     go_wp2
     try clear t2
     try clear t3
     clear t1 u1 u2
     go_loopw [5] (fun i wr=>∃ (k:Nat),k<=A.length/\i=.int .i64 k/\Hid (∀ r∈A.take k,kind<=(r.l.length:Int))/\Hid (aB w wr)) (fun i _=>A.length-(intOf i).toNat)
     case atStart=>exact⟨0,Nat.zero_le _,rfl,fun r hr=>by simp at hr,aB.refl _⟩
     case round=>
      obtain⟨k,hk,rfl,hmin,hg⟩:=hrel
      by_cases hlt:k<A.length
      ·obtain⟨b1,o1,rfl,-,-⟩:=h4 (by omega)
       have c1:wr.cell? ⟨b1,o1+k,none⟩=some (A[k]'hlt).v:=by
        have:=bH hg.out HA0.out rfl (i:=k) (by simpa using hlt);rw[List.getElem_map] at this;exact this
       have r1:=HA.out (A[k]'hlt) (List.getElem_mem hlt)
       have MN:Hid (kind<=((A[k]'hlt).l.length:Int)->∀ r∈A.take (k+1),kind<=(r.l.length:Int)):=by
        intro h r hr;rw[List.take_succ_eq_append_getElem hlt] at hr;rcases List.mem_append.1 hr with hr|hr
        ·exact hmin.out r hr
        ·rw[List.mem_singleton.1 hr];exact h
       have SH:Hid (((A[k]'hlt).l.length:Int)<kind->∃ r∈A,(r.l.length:Int)<kind):=fun h=>⟨_,List.getElem_mem hlt,h⟩
       clear h4 hmin;generalize A[k]'hlt=ra at*;obtain⟨v1,l1⟩:=ra;unfold aI.rd at r1;dsimp only at*;obtain⟨_,X,cx,rfl,x1,x2,-,-⟩:=r1;unfold maxLen at x2
       by_cases hsh:(l1.length:Int)<kind
       ·have SH2:=Lh (SH.out hsh)
        have t5:decide ((l1.length:Int)<kind)=true:=decide_eq_true hsh;clear hsh;go_wp2;exact HR.out _ _ (HS.out SH2.out) hg.out
       ·have MN2:=Lh (MN.out (by omega))
        have t5:decide ((l1.length:Int)<kind)=false:=decide_eq_false hsh;clear MN SH hsh;go_wp2;go_roundw
        case rel=>exact⟨k+1,by omega,by go_num,MN2.out,hg.out⟩
        case measure=>simp[intOf];omega
      ·obtain rfl:k=A.length:=by omega
       rw[List.take_length] at hmin;have HD2:=Lh (HD.out hmin.out);clear hmin;go_wp2
       go_loopw [6] (fun i wz=>∃ (k:Nat),k<=A.length/\i=.int .i64 k/\Hid (dL (A.take k)=false)/\Hid (aB w wz)) (fun i _=>A.length-(intOf i).toNat)
       case atStart=>exact⟨0,Nat.zero_le _,rfl,(show dL []=false from rfl),hg.out⟩
       case round=>
        obtain⟨k,hk,rfl,hof,hgz⟩:=hrel
        by_cases hlt:k<A.length
        ·obtain⟨b1,o1,rfl,-,-⟩:=h4 (by omega)
         have C1:Hid (∀ W,aB w W->W.cell? ⟨b1,o1+k,none⟩=some (A[k]'hlt).v):=fun W hW=>by
          have:=bH hW HA0.out rfl (i:=k) (by simpa using hlt);rw[List.getElem_map] at this;exact this
         have r1:=HA.out (A[k]'hlt) (List.getElem_mem hlt);have OF:Hid (dL (A.take (k+1))=(dL (A.take k)||eX (A[k]'hlt).l)):=dA _ hlt;have OB:Hid (eX (A[k]'hlt).l=true->dL A=true):=fun h=>List.any_eq_true.2 ⟨_,List.getElem_mem hlt,h⟩
         clear h4;generalize A[k]'hlt=ra at*;obtain⟨v1,l1⟩:=ra;unfold aI.rd at r1;dsimp only at*;have RR:=Lh r1;obtain⟨_,X,cx,rfl,x1,x2,-,x4⟩:=r1;unfold maxLen at x2;go_wp2
         go_loopw [7] (fun i wy=>∃ (j:Nat),j<=l1.length/\i=.int .i64 j/\Hid (eX (l1.take j)=false)/\Hid (aB w wy)) (fun i _=>l1.length-(intOf i).toNat)
         case atStart=>exact⟨0,Nat.zero_le _,rfl,(show eX []=false from rfl),hgz.out⟩
         case round=>
          obtain⟨j,hj,rfl,hoj,hgy⟩:=hrel;have c1:=C1.out _ hgy.out
          by_cases hjl:j<l1.length
          ·obtain⟨b3,o3,rfl,-,-⟩:=x4 (by omega)
           obtain⟨d1,d2⟩:=vY hgy.out RR.out hjl;have OG:Hid (eX (l1.take (j+1))=(eX (l1.take j)||(l1[j]'hjl).off)):=dA _ hjl;have OJ:Hid ((l1[j]'hjl).off=true->eX l1=true):=fun h=>List.any_eq_true.2 ⟨_,List.getElem_mem hjl,h⟩
           clear x4;generalize l1[j]'hjl=x at*;obtain⟨p1,p2⟩:=x;dsimp only at d1 d2;have HI1:=Lh fun W (R:Ending->World->Prop) hR=>mP p1 W (R:=R) hR
           have HI2:=Lh fun W (R:Ending->World->Prop) hR=>mP p2 W (R:=R) hR
           have OF2:Hid (Pt.off ⟨p1,p2⟩=(!inm p1||!inm p2)):=rfl;generalize inm p1=i1 at*;generalize inm p2=i2 at*
           cases i1 with
           |false=>
            have HP:Hid (aT kind A=8):=by show _=_;rw[HD2.out,OB.out (OJ.out (by rw[OF2.out];rfl))];rfl
            go_wp2_with (go_at_call 44;refine HI1.out _ _ ?_)
            exact HR.out _ _ HP.out hgy.out
           |true=>
            cases i2 with
            |false=>
             have HP:Hid (aT kind A=8):=by show _=_;rw[HD2.out,OB.out (OJ.out (by rw[OF2.out];rfl))];rfl
             go_wp2_with (go_at_call 44;first|(refine HI1.out _ _ ?_)|(refine HI2.out _ _ ?_))
             exact HR.out _ _ HP.out hgy.out
            |true=>
             go_wp2_with (go_at_call 44;first|(refine HI1.out _ _ ?_)|(refine HI2.out _ _ ?_))
             go_roundw
             case rel=>exact⟨j+1,by omega,by go_num,by show _=_;rw[OG.out,OF2.out,hoj.out];rfl,hgy.out⟩
             case measure=>simp[intOf];omega
          ·obtain rfl:j=l1.length:=by omega
           rw[List.take_length] at hoj;go_wp2;go_roundw
           case rel=>exact⟨k+1,by omega,by go_num,by show _=_;rw[OF.out,hof.out,hoj.out];rfl,hgy.out⟩
           case measure=>simp[intOf];omega
        ·obtain rfl:k=A.length:=by omega
         rw[List.take_length] at hof;have HP:Hid (aT kind A=0):=by show _=_;rw[HD2.out,hof.out];rfl
         go_wp2;exact HR.out _ _ HP.out hgz.out
end Go.Proofs.YtjalimkajcjapaaGreatDoor
