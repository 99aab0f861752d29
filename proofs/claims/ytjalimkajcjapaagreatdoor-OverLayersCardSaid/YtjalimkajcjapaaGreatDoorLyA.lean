import Derived.Test.YtjalimkajcjapaaGreatDoorVlA
import Derived.Test.YtjalimkajcjapaaGreatDoorOvCI
import Derived.Test.YtjalimkajcjapaaGreatDoorRowsA
import Derived.DeepKeys4
namespace Go.Proofs.YtjalimkajcjapaaGreatDoor
set_option maxRecDepth 100000
open Go.RowKit B
structure FtR where
 f:Ft
 A:List aI
 B:List Atr
def FtR.rd (x:FtR)(w:World)(S:Nat->Prop):Prop:=Rd w S 1 x.f.pv x.A.length (x.A.map aI.v)/\(∀ r∈x.A,r.rd w S)/\Rd w S 4 x.f.av x.B.length (rQ x.B)
theorem FtR.rd.gr {x:FtR}{w w':World}{S:Nat->Prop}(h:x.rd w S)(hg:aB w w'):x.rd w' S:=⟨h.1.gr2 (by decide) hg,fun r hr=>(h.2.1 r hr).gr2 (by decide) hg,h.2.2.gr2 (by decide) hg⟩
def FtR.cells (x:FtR):List Value:=x.f.cells
theorem FtR.cells_len (x:FtR):x.cells.length=5:=rfl
def FtR.pl (x:FtR):Bool×Nat×Int×List (List Pt)×List (ByteArray×Val):=(x.f.h,x.f.id,x.f.ty,x.A.map aI.l,x.B.map Atr.pl)
def Fts (l:List FtR):List Value:=l.flatMap FtR.cells
theorem FtR.pl_iff {x y:FtR}:x.pl=y.pl↔x.f.h=y.f.h/\x.f.id=y.f.id/\x.f.ty=y.f.ty/\x.A.map aI.l=y.A.map aI.l/\x.B.map Atr.pl=y.B.map Atr.pl:=by
 unfold FtR.pl;simp only[Prod.mk.injEq]
theorem take_plF {A B:List FtR}{k:Nat}(h1:k<A.length)(h2:k<B.length)(ht:(A.take k).map FtR.pl=(B.take k).map FtR.pl)(he:A[k].pl=B[k].pl):(A.take (k+1)).map FtR.pl=(B.take (k+1)).map FtR.pl:=by
 rw[List.take_succ_eq_append_getElem h1,List.take_succ_eq_append_getElem h2,List.map_append,List.map_append,ht,List.map_singleton,List.map_singleton,he]
theorem plF_at {A B:List FtR}{k:Nat}(h1:k<A.length)(h2:k<B.length)(h:A.map FtR.pl=B.map FtR.pl):A[k].pl=B[k].pl:=by
 have:=congrArg (fun l=>l[k]?) h;simp only[List.getElem?_map,List.getElem?_eq_getElem h1,List.getElem?_eq_getElem h2,Option.map_some,Option.some.injEq] at this;exact this
set_option maxHeartbeats 16000000 in
theorem nN (a b:Value)(A B:List FtR)(S T S' T':Nat->Prop)(w:World)(ha:Rd w S 5 a A.length (Fts A))(hA:∀ x∈A,x.rd w S')(hb:Rd w T 5 b B.length (Fts B))(hB:∀ x∈B,x.rd w T'){R:Ending->World->Prop}
  (hR:∀ (c:Bool) w',(c=true↔A.map FtR.pl=B.map FtR.pl)->aB w w'->R (.returned (.bool c)) w'):
  Calls Tryz.prog 24 #[a,b] w R:=by
 have ha:=ha.lt (by decide);have hb:=hb.lt (by decide);have HA:=Lh hA;have HB:=Lh hB;obtain⟨_,X,c,rfl,h1,h2,h3,h4⟩:=ha;obtain⟨_,Y,d,rfl,k1,k2,k3,k4⟩:=hb;unfold maxLen at h2 k2;have HR:=Lh hR;clear hR hA hB
 by_cases hl:A.length=B.length
 ·have heq:((A.length:Int) != B.length)=false:=by simp;omega
  have hl:=Lh hl;go_enter Tryz.func24,Tryz.ntmps24
  go_wp2
  go_loopw [5] (fun i wr=>∃ k:Nat,k<=A.length/\i=.int .i64 k/\Hid ((A.take k).map FtR.pl=(B.take k).map FtR.pl)/\Hid (aB w wr)) (fun i _=>A.length-(intOf i).toNat)
  case atStart=>exact⟨0,Nat.zero_le _,rfl,rfl,aB.refl _⟩
  case round=>
   obtain⟨k,hk,rfl,ht,hg⟩:=hrel
   by_cases hlt:k<A.length
   ·have hlt2:k<B.length:=by rw[<-hl.out];exact hlt
    obtain⟨b1,o1,rfl,hb1,hc1⟩:=h4 (by omega);obtain⟨b2,o2,rfl,hb2,hc2⟩:=k4 (by omega);have e1:=fun W (h:aB w W)=>aL FtR.cells_len h hb1 hc1 hlt
    have e2:=fun W (h:aB w W)=>aL FtR.cells_len h hb2 hc2 hlt2
    have YS:Hid (A[k].pl=B[k].pl->(A.take (k+1)).map FtR.pl=(B.take (k+1)).map FtR.pl):=fun h=>take_plF hlt hlt2 ht.out h
    have NO:Hid (¬ A[k].pl=B[k].pl->¬ A.map FtR.pl=B.map FtR.pl):=fun h h2=>h (plF_at hlt hlt2 h2)
    have RA:=HA.out A[k] (List.getElem_mem hlt);have RB:=HB.out B[k] (List.getElem_mem hlt2);clear hc1 hc2 h4 k4 h3 k3;generalize A[k]=x at*;generalize B[k]=y at*;have PL:=Lh (FtR.pl_iff (x:=x) (y:=y));obtain⟨⟨xh,xi,xt,xp,xv⟩,xA,xB⟩:=x;obtain⟨⟨yh,yi,yt,yp,yv⟩,yA,yB⟩:=y
    have E1:Hid (∀ W,aB w W->(W.cell? ⟨b1,o1+k*5,none⟩=some (.bool xh)/\W.cell? ⟨b1,o1+k*5+1,none⟩=some (.int .u64 xi)/\W.cell? ⟨b1,o1+k*5+2,none⟩=some (.int .i64 xt)/\W.cell? ⟨b1,o1+k*5+3,none⟩=some xp/\W.cell? ⟨b1,o1+k*5+4,none⟩=some xv)/\W.cell? ⟨b2,o2+k*5,none⟩=some (.bool yh)/\W.cell? ⟨b2,o2+k*5+1,none⟩=some (.int .u64 yi)/\W.cell? ⟨b2,o2+k*5+2,none⟩=some (.int .i64 yt)/\W.cell? ⟨b2,o2+k*5+3,none⟩=some yp/\W.cell? ⟨b2,o2+k*5+4,none⟩=some yv):=fun W h=>⟨⟨e1 W h 0 _ rfl,e1 W h 1 _ rfl,e1 W h 2 _ rfl,e1 W h 3 _ rfl,e1 W h 4 _ rfl⟩,e2 W h 0 _ rfl,e2 W h 1 _ rfl,e2 W h 2 _ rfl,e2 W h 3 _ rfl,e2 W h 4 _ rfl⟩
    obtain⟨ra1,ra2,ra3⟩:=RA;obtain⟨rb1,rb2,rb3⟩:=RB;dsimp only at ra1 ra2 ra3 rb1 rb2 rb3;have SP:=Lh fun W (hg:aB w W) (R:Ending->World->Prop) hR=>yH xp yp xA yA _ _ _ _ W (ra1.gr2 (by decide) hg) (fun r hr=>(ra2 r hr).gr2 (by decide) hg) (rb1.gr2 (by decide) hg) (fun r hr=>(rb2 r hr).gr2 (by decide) hg) (R:=R) hR
    have SA:=Lh fun W (hg:aB w W) (R:Ending->World->Prop) hR=>rJ xv yv xB yB _ _ W (ra3.gr2 (by decide) hg) (rb3.gr2 (by decide) hg) (R:=R) hR
    clear e1 e2 ra1 ra2 ra3 rb1 rb2 rb3;dsimp only at PL;have NO:Hid (¬ (xh=yh/\xi=yi/\xt=yt/\xA.map aI.l=yA.map aI.l/\xB.map Atr.pl=yB.map Atr.pl)->∀ w',aB w w'->R (.returned (.bool false)) w'):=fun h w' hg=>HR.out false w' ⟨fun h2=>(by cases h2),fun h2=>absurd h2 (NO.out fun h3=>h (PL.out.1 h3))⟩ hg
    have YS:Hid (xh=yh/\xi=yi/\xt=yt/\xA.map aI.l=yA.map aI.l/\xB.map Atr.pl=yB.map Atr.pl->(A.take (k+1)).map FtR.pl=(B.take (k+1)).map FtR.pl):=fun h=>YS.out (PL.out.2 h)
    clear PL;go_upto_region 6 with fail
    refine aE (aB wr.drew) ((aB.refl _)) 62 [0,1,2,3,4,5,6,7,8,9,10,11,12,13,14,15,16,17,18,19,20,21,22,23,24,25,26,27,28,29,30,31,32,33,34,35,36,37,38,39,40,41,42,43,44,45,46,47,48,49,50,51,52,53,54,55,56,57,58,59,60,61] (by kernel_rfl) (by kernel_rfl) (by intro c a d v w h;cases d<;>exact h) ?_;have GD:=Lh (hg.out.tr (aB.refl wr).dr);have GX:Hid (aB wr.drew wr.drew):=aB.refl _;generalize wr.drew=wd at*
    cases th:(xh==yh) with
    |false=>
     have tn:¬ xh=yh:=by rintro rfl;simp at th
     iterate 12 (apply aD;exact rfl;exact rfl;(intro W hW;obtain⟨⟨q0,q1,q2,q3,q4⟩,q5,q6,q7,q8,q9⟩:=E1.out W (GD.out.tr hW);(try clear hW);go_simp;with_reducible rfl);try simp only[Act.put,sA,sZ,sS])
     iterate 11 (apply bF;exact rfl;exact rfl;try simp only[Act.put,sA,sZ,sS])
     iterate 2 (apply aD;exact rfl;exact rfl;(intro W hW;obtain⟨⟨q0,q1,q2,q3,q4⟩,q5,q6,q7,q8,q9⟩:=E1.out W (GD.out.tr hW);(try clear hW);go_simp;with_reducible rfl);try simp only[Act.put,sA,sZ,sS])
     iterate 11 (apply bF;exact rfl;exact rfl;try simp only[Act.put,sA,sZ,sS])
     iterate 2 (apply aD;exact rfl;exact rfl;(intro W hW;obtain⟨⟨q0,q1,q2,q3,q4⟩,q5,q6,q7,q8,q9⟩:=E1.out W (GD.out.tr hW);(try clear hW);go_simp;with_reducible rfl);try simp only[Act.put,sA,sZ,sS])
     iterate 12 (apply bF;exact rfl;exact rfl;try simp only[Act.put,sA,sZ,sS])
     iterate 2 (apply aD;exact rfl;exact rfl;(intro W hW;obtain⟨⟨q0,q1,q2,q3,q4⟩,q5,q6,q7,q8,q9⟩:=E1.out W (GD.out.tr hW);(try clear hW);go_simp;with_reducible rfl);try simp only[Act.put,sA,sZ,sS])
     iterate 10 (apply bF;exact rfl;exact rfl;try simp only[Act.put,sA,sZ,sS])
     refine aK ?_;simp only[List.drop_succ_cons,List.drop_zero];clear E1 SP SA YS;go_wp2;exact NO.out (fun h=>(tn h.1)) _ GD.out
    |true=>
     have eh:xh=yh:=by simpa using th
     subst eh
     cases ti:((xi:Int) != (yi:Int)) with
     |true=>
      have tn:¬ xi=yi:=by rintro rfl;simp at ti
      iterate 25 (apply aD;exact rfl;exact rfl;(intro W hW;obtain⟨⟨q0,q1,q2,q3,q4⟩,q5,q6,q7,q8,q9⟩:=E1.out W (GD.out.tr hW);(try clear hW);go_simp;with_reducible rfl);try simp only[Act.put,sA,sZ,sS])
      iterate 11 (apply bF;exact rfl;exact rfl;try simp only[Act.put,sA,sZ,sS])
      iterate 2 (apply aD;exact rfl;exact rfl;(intro W hW;obtain⟨⟨q0,q1,q2,q3,q4⟩,q5,q6,q7,q8,q9⟩:=E1.out W (GD.out.tr hW);(try clear hW);go_simp;with_reducible rfl);try simp only[Act.put,sA,sZ,sS])
      iterate 12 (apply bF;exact rfl;exact rfl;try simp only[Act.put,sA,sZ,sS])
      iterate 2 (apply aD;exact rfl;exact rfl;(intro W hW;obtain⟨⟨q0,q1,q2,q3,q4⟩,q5,q6,q7,q8,q9⟩:=E1.out W (GD.out.tr hW);(try clear hW);go_simp;with_reducible rfl);try simp only[Act.put,sA,sZ,sS])
      iterate 10 (apply bF;exact rfl;exact rfl;try simp only[Act.put,sA,sZ,sS])
      refine aK ?_;simp only[List.drop_succ_cons,List.drop_zero];clear E1 SP SA YS;go_wp2;exact NO.out (fun h=>(tn h.2.1)) _ GD.out
     |false=>
      have ei0:(xi:Int)=yi:=by simpa using ti
      have ei:xi=yi:=by omega
      clear ei0;subst ei
      cases tt:(xt != yt) with
      |true=>
       have tn:¬ xt=yt:=by rintro rfl;simp at tt
       iterate 38 (apply aD;exact rfl;exact rfl;(intro W hW;obtain⟨⟨q0,q1,q2,q3,q4⟩,q5,q6,q7,q8,q9⟩:=E1.out W (GD.out.tr hW);(try clear hW);go_simp;with_reducible rfl);try simp only[Act.put,sA,sZ,sS])
       iterate 12 (apply bF;exact rfl;exact rfl;try simp only[Act.put,sA,sZ,sS])
       iterate 2 (apply aD;exact rfl;exact rfl;(intro W hW;obtain⟨⟨q0,q1,q2,q3,q4⟩,q5,q6,q7,q8,q9⟩:=E1.out W (GD.out.tr hW);(try clear hW);go_simp;with_reducible rfl);try simp only[Act.put,sA,sZ,sS])
       iterate 10 (apply bF;exact rfl;exact rfl;try simp only[Act.put,sA,sZ,sS])
       refine aK ?_;simp only[List.drop_succ_cons,List.drop_zero];clear E1 SP SA YS;go_wp2;exact NO.out (fun h=>(tn h.2.2.1)) _ GD.out
      |false=>
       have et:xt=yt:=by simpa using tt
       subst et
       iterate 48 (apply aD;exact rfl;exact rfl;(intro W hW;obtain⟨⟨q0,q1,q2,q3,q4⟩,q5,q6,q7,q8,q9⟩:=E1.out W (GD.out.tr hW);(try clear hW);go_simp;with_reducible rfl);try simp only[Act.put,sA,sZ,sS])
       apply aG;exact rfl;exact rfl;exact rfl;intro K hK;go_simp;go_at_call 45;refine SP.out _ GD.out _ ?_;intro w1 hg1;have GX:=Lh hg1;refine hK.out _ _ GX.out ?_;clear hK hg1 SP
       try simp only[Act.put,sA,sZ,sS]
       by_cases hp:xA.map aI.l=yA.map aI.l
       ·rw[decide_eq_true hp]
        iterate 3 (apply aD;exact rfl;exact rfl;(intro W hW;(try clear hW);go_simp;with_reducible rfl);try simp only[Act.put,sA,sZ,sS])
        iterate 10 (apply aD;exact rfl;exact rfl;(intro W hW;obtain⟨⟨q0,q1,q2,q3,q4⟩,q5,q6,q7,q8,q9⟩:=E1.out W (GD.out.tr hW);(try clear hW);go_simp;with_reducible rfl);try simp only[Act.put,sA,sZ,sS])
        refine aK ?_;simp only[List.drop_succ_cons,List.drop_zero];go_wp2_with fail
        go_at_call 46;refine SA.out _ (GD.out.tr GX.out) _ ?_;intro w2 hg2;have GD:=Lh (GD.out.tr (GX.out.tr hg2));clear hg2 SA E1 GX
        by_cases hv:xB.map Atr.pl=yB.map Atr.pl
        ·rw[decide_eq_true hv]
         have YS:=Lh (YS.out ⟨by first|rfl|trivial,by first|rfl|trivial,by first|rfl|trivial,hp,hv⟩);clear hp hv NO th ti tt;go_wp2;go_roundw
         case rel=>exact⟨k+1,by omega,by go_num,YS.out,GD.out⟩
         case measure=>simp[intOf];omega
        ·rw[decide_eq_false hv]
         go_wp2;exact NO.out (fun h=>(hv h.2.2.2.2)) _ GD.out
       ·rw[decide_eq_false hp]
        iterate 3 (apply aD;exact rfl;exact rfl;(intro W hW;(try clear hW);go_simp;with_reducible rfl);try simp only[Act.put,sA,sZ,sS])
        iterate 10 (apply bF;exact rfl;exact rfl;try simp only[Act.put,sA,sZ,sS])
        refine aK ?_;simp only[List.drop_succ_cons,List.drop_zero];have GD:=Lh (GD.out.tr GX.out);clear E1 SA YS;go_wp2;exact NO.out (fun h=>(hp h.2.2.2.1)) _ GD.out
   ·obtain rfl:k=A.length:=by omega
    have e:A.map FtR.pl=B.map FtR.pl:=by
     have:=ht.out;rw[List.take_length] at this;rw[this,List.take_of_length_le (by rw[hl.out];exact Nat.le_refl _)]
    have HR:=Lh (fun w' (hg:aB w w')=>HR.out true w' ⟨fun _=>e,fun _=>rfl⟩ hg);clear e;go_wp2;exact HR.out _ hg.out
 ·have heq:((A.length:Int) != B.length)=true:=by simp;omega
  have e:¬ A.map FtR.pl=B.map FtR.pl:=fun h=>hl (by have:=congrArg List.length h;rwa[List.length_map,List.length_map] at this)
  have HR:=Lh (fun w' (hg:aB w w')=>HR.out false w' ⟨fun h=>(by cases h),fun h=>absurd h e⟩ hg);clear e;go_enter Tryz.func24,Tryz.ntmps24
  go_wp2;exact HR.out _ (aB.refl _)
structure LyR where
 nm:ByteArray
 ext:Int
 fv:Value
 F:List FtR
def LyR.cells (x:LyR):List Value:=[.string x.nm,.int .i64 x.ext,x.fv]
theorem LyR.cells_len (x:LyR):x.cells.length=3:=rfl
def Lys (l:List LyR):List Value:=l.flatMap LyR.cells
def LyR.rd (x:LyR)(w:World)(S:Nat->Prop):Prop:=Rd w S 5 x.fv x.F.length (Fts x.F)/\∀ f∈x.F,f.rd w S
theorem LyR.rd.gr {x:LyR}{w w':World}{S:Nat->Prop}(h:x.rd w S)(hg:aB w w'):x.rd w' S:=⟨h.1.gr2 (by decide) hg,fun f hf=>(h.2 f hf).gr hg⟩
def LyR.pl (x:LyR):ByteArray×Int×List (Bool×Nat×Int×List (List Pt)×List (ByteArray×Val)):=(x.nm,x.ext,x.F.map FtR.pl)
theorem LyR.pl_iff {x y:LyR}:x.pl=y.pl↔x.nm=y.nm/\x.ext=y.ext/\x.F.map FtR.pl=y.F.map FtR.pl:=by
 unfold LyR.pl;simp only[Prod.mk.injEq]
def kV (w:World)(S:Nat->Prop)(v:Value)(L:List LyR):Prop:=Rd w S 3 v L.length (Lys L)/\∀ x∈L,x.rd w S
theorem kV.gr {w w':World}{S:Nat->Prop}{v:Value}{L:List LyR}(h:kV w S v L)(hg:aB w w'):kV w' S v L:=⟨h.1.gr2 (by decide) hg,fun x hx=>(h.2 x hx).gr hg⟩
structure FtR.ok (f:FtR):Prop where
 id:f.f.id<18446744073709551616
 ty:I64 f.f.ty
 pts:∀ r∈f.A,r.l.length<=140737488355328
 atr:∀ a∈f.B,a.ok
structure LyR.ok (x:LyR):Prop where
 nm:x.nm.size<=maxLen
 ext:I64 x.ext
 ft:∀ f∈x.F,f.ok
theorem take_plL {A B:List LyR}{k:Nat}(h1:k<A.length)(h2:k<B.length)(ht:(A.take k).map LyR.pl=(B.take k).map LyR.pl)(he:A[k].pl=B[k].pl):(A.take (k+1)).map LyR.pl=(B.take (k+1)).map LyR.pl:=by
 rw[List.take_succ_eq_append_getElem h1,List.take_succ_eq_append_getElem h2,List.map_append,List.map_append,ht,List.map_singleton,List.map_singleton,he]
theorem plL_at {A B:List LyR}{k:Nat}(h1:k<A.length)(h2:k<B.length)(h:A.map LyR.pl=B.map LyR.pl):A[k].pl=B[k].pl:=by
 have:=congrArg (fun l=>l[k]?) h;simp only[List.getElem?_map,List.getElem?_eq_getElem h1,List.getElem?_eq_getElem h2,Option.map_some,Option.some.injEq] at this;exact this
end Go.Proofs.YtjalimkajcjapaaGreatDoor
namespace Go.Proofs.YtjalimkajcjapaaGreatDoor
set_option maxRecDepth 100000
open Go.RowKit
end Go.Proofs.YtjalimkajcjapaaGreatDoor
namespace Go.Proofs.YtjalimkajcjapaaGreatDoor
set_option maxRecDepth 100000
open Go.RowKit B
def FtR.fm (x:FtR):Prop:=∃ A n c B m d,x.f.pv=.slice A n c/\x.f.av=.slice B m d
theorem Rd.form {w:World}{S:Nat->Prop}{size n:Nat}{v:Value}{xs:List Value}(h:Rd w S size v n xs):∃ A n c,v=.slice A n c:=by
 obtain⟨_,A,c,h,_⟩:=h;exact⟨A,n,c,h⟩
theorem FtR.rd.fm {x:FtR}{w:World}{S:Nat->Prop}(h:x.rd w S):x.fm:=by
 obtain⟨A,n,c,h1⟩:=h.1.form;obtain⟨B,m,d,h2⟩:=h.2.2.form;exact⟨A,n,c,B,m,d,h1,h2⟩
end Go.Proofs.YtjalimkajcjapaaGreatDoor
namespace Go.Proofs.YtjalimkajcjapaaGreatDoor
set_option maxRecDepth 100000
open Go.RowKit B
open Go.Maps (Keyed)
theorem uB:Keyed Tryz.prog 9:=Maps.string_keyed Tryz.underlying9
theorem yD {s:ByteArray}(hs:s.size<=maxLen):∃ kl,keyOf Tryz.prog 9 (.string s)=some kl:=str_key Tryz.underlying9 hs
def Val.cells (x:Val):List Value:=[.int .i64 x.k,.string x.t,.int .u64 x.b]
theorem tI:∀ x y:ByteArray,Value.string x=Value.string y->x=y:=fun x y h=>by injection h
theorem dU {P:Program}{w:World}{t e:TypeId}{z:Value}{size bytes:Nat}{ops:Array Oper}{rest:List Oper}{o:Oper}{a:Act}{Q:Exit->Act->World->Prop}(hgd:o.guard=none)(s x:Operand)
  (ho:o.op=.call {callee:=.builtin .append,args:=#[s,x],argTypes:=#[t,t]})
  (E:jT P t e z size bytes) {base:Nat} {v:Value} {n:Nat} {xs:List Value} (hown:w.ownsRow base e size v n xs) (hs:a.eval s=v)
  (m g:Nat) (hgz:w.heap.size=g) (cs:Array Value) (hx:a.eval x=.slice (some ⟨g,0,none⟩) m m) (hm:m<=16) (hcs:cs.size=m*size) (h1:∀ u∈cs.toList,u.oneCell'=true)
  (hn:(n+m)*bytes<=140737488355328) (hbase:base<=w.heap.size)
  (h:∀ v' w',w'.ownsRow base e size v' (n+m) (xs++cs.toList)->w.grownBy w' v.ownBlock->(v'.ownBlock=v.ownBlock∨v'.ownBlock=some (w.heap.size+1))->wpList P ops Q rest (a.put o.dst v') w'):
  wpList P ops Q (o::rest) a (w.alloc (.cells cs e)):=by
 subst hgz;refine fT hgd s x ho E (hown.alloc _) hs (Rd.lit w cs e m (by simp only[maxLen];omega) hcs) hx h1 hn (by rw[World.size_alloc];omega) fun v' w' k1 k2 k3=>?_
 exact h v' w' k1 (iS k2) (by rw[World.size_alloc] at k3;exact k3)
end Go.Proofs.YtjalimkajcjapaaGreatDoor
