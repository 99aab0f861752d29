import Derived.Lib.SlicesCompact
import Derived.Test.YtjalimkajcjapaaGreatDoorPtN
import Derived.Lib.SliceRun
namespace Go.Proofs.YtjalimkajcjapaaGreatDoor
set_option maxRecDepth 100000
open Go.RowKit
section
variable {P : Program}
theorem jY (w:World)(t e ty:TypeId)(z:Value)(ht:P.underlying t=some (.slice e))(hv:∀ w,(zeroValue e).run P w=.ok z w)(b o n c:Nat)(zs:List Value)(hn:0<n)
  (hzc:(Builtin.zeroCells z.cells n).toList=zs) (hc:∀ j,j<zs.length->(w.cell? ⟨b,o+j,none⟩).isSome=true) (hf:∀ j,j<zs.length->w.frozen? ⟨b,o+j,none⟩=false) (h1:∀ u∈zs,u.oneCell'=true):
  (Builtin.clear_ #[t] ty #[.slice (some ⟨b,o,none⟩) n c]).run P w=.ok (.tuple #[]) (w.setCells b o zs):=by
 have hst:=run_storeCells_cells (P:=P) b o zs 0 w (by simpa using hc) (by simpa using hf) h1;simp only[Nat.add_zero] at hst
 obtain⟨m,rfl⟩:∃ m,n=m+1:=⟨n-1,by omega⟩
 simp[Builtin.clear_,run_underlying ht,hv,hzc,hst]
theorem vR {t:TypeId}{i:TypeInfo}{z:Value}(h:P.info? t=some i)(hz:i.zero=some z)(w:World):(zeroValue t).run P w=.ok z w:=by
 simp[zeroValue,typeInfo,h,hz]
theorem oY {w:World}{base e size n k c:Nat}{A:Option Addr}{xs:List Value}(h:w.ownsRow base e size (.slice A n c) n xs)(hk:k<=n)(h0:0<n):w.ownsRow base e size (.slice A k c) k (xs.take (k*size)):=by
 obtain⟨h1,h2⟩:=h;have hle:k*size<=n*size:=Nat.mul_le_mul_right _ hk;refine⟨by rw[List.length_take];omega,?_⟩
 rcases h2 with ⟨hn,h0'⟩|⟨g,cap,cur,hv,hg,hh,hnc,hcap,hsz,htake⟩
 ·omega
 ·injection hv with a b c
  subst a c;refine .inr ⟨g,_,cur,rfl,hg,hh,by omega,hcap,hsz,?_⟩;rw[<-htake,List.take_take,Nat.min_eq_left hle]
theorem jL {base e size n m g cap:Nat}:∀ (zs:List Value) (k:Nat) (w:World) (xs:List Value),m<=k->w.ownsRow base e size (.slice (some ⟨g,0,none⟩) n cap) n xs->
  ∃ ys,(w.setCells g k zs).ownsRow base e size (.slice (some ⟨g,0,none⟩) n cap) n ys/\ys.take m=xs.take m/\w.grownBy (w.setCells g k zs) (some g)
 |[],k,w,xs,_,h=>⟨xs,h,rfl,World.grownBy.refl w _⟩
 |z::zs,k,w,xs,hm,h=>by
  obtain⟨h1,h2⟩:=h.stored k z;obtain⟨ys,h3,h4,h5⟩:=jL zs (k+1) _ _ (Nat.le_succ_of_le hm) h1;refine⟨ys,h3,?_,h2.trans h5⟩;rw[h4,List.take_set_of_le (by omega)]
end
end Go.Proofs.YtjalimkajcjapaaGreatDoor
namespace Go.Proofs.YtjalimkajcjapaaGreatDoor
set_option maxRecDepth 100000
open Go.RowKit Go.Lib
instance:Inhabited Pt:=⟨⟨0,0⟩⟩
theorem gQ {w:World}{base e g cap n:Nat}{zs:List Pt}(h:w.ownsRow base e 2 (.slice (some ⟨g,0,none⟩) n cap) n (Pts zs)){j:Nat}(hj:j<zs.length):∀ i u,(zs[j]).cells[i]? =some u->w.cell? ⟨g,j*2+i,none⟩=some u:=by
 intro i u hu;have hi:i<2:=by rw[<-Pt.cells_len zs[j]];exact(List.getElem?_eq_some_iff.1 hu).1
 have hn:=h.1;rw[jR] at hn;rw[h.cellAt (j*2+i) (by omega)];show (Pts zs)[j*2+i]? =_;unfold Pts;rw[mZ _ 2 Pt.cells_len zs j i hj hi,hu]
theorem pts_set (zs:List Pt)(k:Nat)(p:Pt)(hk:k<zs.length):((Pts zs).set (k*2) (.int .i64 p.x)).set (k*2+1) (.int .i64 p.y)=Pts (zs.set k p):=by
 induction zs generalizing k with
 |nil=>simp at hk
 |cons z zs ih=>
  cases k with
  |zero=>rfl
  |succ k=>
   have:=ih k (by simpa using hk);rw[show (k+1)*2=k*2+1+1 by omega];show Value.int .i64 z.x::Value.int .i64 z.y::((Pts zs).set (k*2) _).set (k*2+1) _=_;rw[this];rfl
set_option maxHeartbeats 4000000 in
theorem xL (zs:List Pt)(v:Value)(base:Nat)(w0 w:World)(hown:w.ownsRow base 51 2 v zs.length (Pts zs))(hg0:aB w0 w)(hb0:w0.heap.size<=base){R:Ending->World->Prop}
  (hR:∀ r w',w'.ownsRow base 51 2 r (compact zs).length (Pts (compact zs))->aB w0 w'->R (.returned r) w'):
  Calls Tryz.prog 106 #[v] w R:=by
 have HR:=Lh hR;clear hR;have hcd:compact zs=compactUpTo zs.toArray zs.length:=rfl;have same:Hid ((∀ j,j<zs.length->keeps zs.toArray j=true)->compact zs=zs):=compact_all zs;have HCD:=Lh hcd;clear hcd
 obtain⟨A,c,rfl⟩:∃ A c,v=.slice A zs.length c:=by
  obtain⟨_,A,c,h,_⟩:=Rd.own hown;exact⟨A,c,h⟩
 by_cases h2:zs.length<2
 ·have t1:decide ((zs.length:Int)<2)=true:=by simp;omega
  go_enter Tryz.func106,Tryz.ntmps106
  go_wp2;have e:=same.out (fun j hj=>keeps_lt_one _ j (by omega));refine HR.out _ _ ?_ hg0;rw[e];exact hown
 ·have t1:decide ((zs.length:Int)<2)=false:=by simp;omega
  obtain⟨g,rfl⟩:∃ g,A=some ⟨g,0,none⟩:=by
   rcases hown.2 with ⟨h,h0⟩|⟨g,cap,cur,h,_⟩
   ·omega
   ·injection h with h
    exact⟨g,h⟩
  have hcap:zs.length<=c/\c<=9223372036854775807:=by
   obtain⟨_,A',c',h,h1,h3,_⟩:=Rd.own hown;injection h with _ _ h
   subst h;exact⟨h1,h3⟩
  obtain⟨hcap1,hcap2⟩:=hcap;go_enter Tryz.func106,Tryz.ntmps106
  go_wp2
  go_loopw [3] (fun s3 wr=>∃ k q:Nat,1<=k/\k<=zs.length/\s3=.int .i64 k/\wr=w.drewN q/\Hid (∀ j,j<k->keeps zs.toArray j=true)) (fun s3 _=>zs.length-(Go.RowKit.intOf s3).toNat)
  case atStart=>exact⟨1,0,Nat.le_refl _,by omega,rfl,rfl,keeps_lt_one _⟩
  case round=>
   obtain⟨k,q,hk1,hk,rfl,rfl,hall⟩:=hrel
   by_cases hlt:k<zs.length
   ·have e1:=gQ hown hlt
    have e2:=gQ hown (show k-1<zs.length by omega)
    have B:Hid (zs.toArray[k]! =zs[k]/\zs.toArray[k-1]! =zs[k-1]):=⟨by simp[hlt],by simp[show k-1<zs.length by omega]⟩
    have HO:=Lh hown;clear hown;generalize zs[k]=x at*;generalize zs[k-1]=y at*;obtain⟨x1,x2⟩:=x;obtain⟨y1,y2⟩:=y;have c1:=e1 0 _ rfl;have c2:=e1 1 _ rfl;have d1:=e2 0 _ rfl;have d2:=e2 1 _ rfl;simp only[Nat.add_zero] at c1 d1;clear e1 e2;have hsub:((k:Int)-1)=((k-1:Nat):Int):=by omega
    have hkk:k-1<zs.length:=by omega
    have split:(x1=y1/\x2=y2)∨((x1==y1)=false∨((x1==y1)=true/\(x2==y2)=false)):=by
     by_cases a:x1=y1<;>by_cases b:x2=y2<;>simp[a,b]
    rcases split with ⟨rfl,rfl⟩|hdiff
    ·have hk0:Hid (keeps zs.toArray k=false):=keeps_neg (by omega) (by rw[B.out.1,B.out.2])
     have st:=Lh (CompInv.start hall.out hk0.out);clear B hall hk0;go_wp2
     go_quiet (fail)
     go_wp2;clear c1 c2 d1 d2 hsub hkk
     go_loopw [3,5] (fun s3 s5 wr=>∃ (kk k2:Nat) (dk:Array Pt),s3=.int .i64 kk/\s5=.int .i64 k2/\1<=k2/\k+k2<=zs.length/\wr.ownsRow base 51 2 (.slice (some ⟨g,0,none⟩) zs.length c) zs.length (Pts dk.toList)/\Hid (aB w0 wr)/\Hid (CompInv zs.toArray (k+k2) kk dk)) (fun _ s5 _=>zs.length-(Go.RowKit.intOf s5).toNat)
     case atStart=>exact⟨k,1,zs.toArray,rfl,rfl,Nat.le_refl _,by omega,by simpa using aJ HO.out ((aB.refl w).dn _),hg0.dn _,st.out⟩
     case round=>
      obtain⟨kk,k2,dk,rfl,rfl,h1,hle,hO,hG,hI⟩:=hrel;have hkk:=hI.out.lt;have hds:dk.size=zs.length:=by have:=hI.out.size;simpa using this
      have hfz:=hO.frozenAt;have HO2:=Lh hO
      by_cases hlt2:k+k2<zs.length
      ·have e1:=gQ hO (j:=k+k2) (by simp;omega)
       have e2:=gQ hO (j:=k+k2-1) (by simp;omega);have e3:=gQ hO (j:=kk) (by simp;omega)
       have B:Hid (zs.toArray[k+k2]! =dk.toList[k+k2]'(by simp;omega)/\zs.toArray[k+k2-1]! =dk.toList[k+k2-1]'(by simp;omega)):=by
        refine⟨?_,?_⟩
        ·rw[<-hI.out.high (k+k2) (by omega)];simp[show k+k2<dk.size by omega]
        ·rw[<-hI.out.high (k+k2-1) (by omega)];simp[show k+k2-1<dk.size by omega]
       clear hO;generalize dk.toList[k+k2]'(by simp;omega)=x at*;generalize dk.toList[k+k2-1]'(by simp;omega)=y at*;generalize dk.toList[kk]'(by simp;omega)=o at*;obtain⟨x1,x2⟩:=x;obtain⟨y1,y2⟩:=y;obtain⟨o1,o2⟩:=o;have c1:=e1 0 _ rfl;have c2:=e1 1 _ rfl;have d1:=e2 0 _ rfl;have d2:=e2 1 _ rfl;have p1:=e3 0 _ rfl;have p2:=e3 1 _ rfl;rw[show (k+k2)*2=k*2+k2*2 by omega] at c1 c2;rw[show (k+k2-1)*2=k*2+(k2-1)*2 by omega] at d1 d2;simp only[Nat.add_zero] at c1 d1 p1;clear e1 e2 e3
       have hsub:((k2:Int)-1)=((k2-1:Nat):Int):=by omega
       have hz1:k2-1<zs.length-k:=by omega
       have hz2:k2<zs.length-k:=by omega
       have hz3:kk<zs.length:=by omega
       have split:(x1=y1/\x2=y2)∨((x1 != y1)=true∨((x1 != y1)=false/\(x2 != y2)=true)):=by
        by_cases a:x1=y1<;>by_cases b:x2=y2<;>simp[a,b]
       rcases split with ⟨rfl,rfl⟩|hdiff
       ·have nx:=Lh (hI.out.skip (keeps_neg (by omega) (by rw[B.out.1,B.out.2])))
        clear B;go_wp2
        go_quiet (fail)
        go_wp2;go_roundw
        case rel=>exact⟨kk,k2+1,dk,by go_num,by go_num,by omega,by omega,aJ HO2.out ((aB.refl _).dn _),hG.out.dn _,nx.out⟩
        case measure=>simp[Go.RowKit.intOf];omega
       ·have hkd:Hid (keeps zs.toArray (k+k2)=true):=by
         refine keeps_pos ?_;rw[B.out.1,B.out.2];intro e;injection e with e1 e2
         subst e1 e2;simp at hdiff
        have hx:Hid (zs.toArray[k+k2]! =⟨x1,x2⟩):=B.out.1;have nx:=Lh (hI.out.keep (by simpa using hlt2) hkd.out)
        have hfin:Hid (∀ W,aB wr W->W.ownsRow base 51 2 (.slice (some ⟨g,0,none⟩) zs.length c) zs.length (Pts dk.toList)->
          ((W.setCell ⟨g,kk*2,none⟩ (.int .i64 x1)).setCell ⟨g,kk*2+1,none⟩ (.int .i64 x2)).ownsRow base 51 2 (.slice (some ⟨g,0,none⟩) zs.length c) zs.length (Pts (dk.setIfInBounds kk (zs.toArray[k+k2]!)).toList)/\
          aB w0 ((W.setCell ⟨g,kk*2,none⟩ (.int .i64 x1)).setCell ⟨g,kk*2+1,none⟩ (.int .i64 x2))):=by
         intro W hW h;have hgb:=(h.lt g rfl).1;refine⟨aO ((h.stored _ _).1.stored _ _).1 rfl ?_,((hG.out.tr hW).set (by show _<=g;omega) _).set (by show _<=g;omega) _⟩;rw[Array.toList_setIfInBounds,hx.out];exact pts_set dk.toList kk ⟨x1,x2⟩ (by simp;omega)
        clear B hx hkd
        rcases hdiff with t2|⟨t2,t3⟩
        ·have t4:(x1==y1)=false:=by simpa using t2
         go_wp2
         go_quiet (fail)
         go_wp2;go_roundw
         case rel=>exact⟨kk+1,k2+1,_,by go_num,by go_num,by omega,by omega,(hfin.out _ ((aB.refl _).dn _) (aJ HO2.out ((aB.refl _).dn _))).1,(hfin.out _ ((aB.refl _).dn _) (aJ HO2.out ((aB.refl _).dn _))).2,nx.out⟩
         case measure=>simp[Go.RowKit.intOf];omega
        ·obtain rfl:x1=y1:=by simpa using t2
         have t4:(x2==y2)=false:=by simpa using t3
         clear t2;go_wp2
         go_quiet (fail)
         go_wp2;go_roundw
         case rel=>exact⟨kk+1,k2+1,_,by go_num,by go_num,by omega,by omega,(hfin.out _ ((aB.refl _).dn _) (aJ HO2.out ((aB.refl _).dn _))).1,(hfin.out _ ((aB.refl _).dn _) (aJ HO2.out ((aB.refl _).dn _))).2,nx.out⟩
         case measure=>simp[Go.RowKit.intOf];omega
      ·have hend:k+k2=zs.length:=by omega
       have hcl:∀ ty,(Builtin.clear_ #[58] ty #[.slice (some ⟨g,kk*2,none⟩) (zs.length-kk) (c-kk)]).run Tryz.prog wr=.ok (.tuple #[]) (wr.setCells g (kk*2) (Builtin.zeroCells (Value.agg #[.int .i64 0,.int .i64 0]).cells (zs.length-kk)).toList):=by
        have hzl:(Builtin.zeroCells (Value.agg #[.int .i64 0,.int .i64 0]).cells (zs.length-kk)).toList.length=(zs.length-kk)*2:=by simp[Builtin.zeroCells,Value.cells]
        refine fun ty=>jY wr _ 51 ty (.agg #[.int .i64 0,.int .i64 0]) gM.ht ?_ g _ _ _ _ (by omega) rfl ?_ ?_ ?_
        ·obtain⟨i,hi,hz0,_⟩:=info_parts gM.hi
         exact vR hi hz0
        ·intro j hj
         rw[hzl] at hj;rw[hO.cellAt (kk*2+j) (by omega),List.getElem?_eq_getElem (by rw[jR];simp;omega)];rfl
        ·exact fun j _=>hfz _
        ·intro u hu
         rw[Array.mem_toList_iff] at hu;simp only[Builtin.zeroCells,Array.mem_map,Array.mem_range] at hu;obtain⟨i,_,rfl⟩:=hu;have h2:i%2<2:=Nat.mod_lt _ (by decide);show Value.oneCell' ((#[Value.int .i64 0,Value.int .i64 0]:Array Value)[i%2]!)=true;generalize i%2=r at h2
         match r,h2 with
         |0,_=>rfl
         |1,_=>rfl
       have hln:Hid ((compact zs).length=kk):=by
        have:=hI.out.len;rw[hend] at this;exact this
       have hfin:Hid (∀ zs2:List Value,(wr.setCells g (kk*2) zs2).ownsRow base 51 2 (.slice (some ⟨g,0,none⟩) kk c) kk (Pts (compact zs))/\aB w0 (wr.setCells g (kk*2) zs2)):=by
        intro zs2;have hgb:=(hO.lt g rfl).1;obtain⟨ys,h3,h4,h5⟩:=jL (m:=kk*2) zs2 (kk*2) wr _ (Nat.le_refl _) hO;refine⟨aO (oY h3 (by omega) (by omega)) rfl ?_,bK hG.out h5 fun k hk=>by cases hk;omega⟩;rw[h4];have hlow:=hI.out.low;rw[hend] at hlow
        have e:compact zs=dk.toList.take kk:=by
         apply List.ext_getElem?;intro j
         by_cases hj:j<kk
         ·rw[HCD.out,hlow j hj,List.getElem?_take_of_lt hj]
          simp[show j<dk.size by omega]
         ·rw[List.getElem?_eq_none (by rw[hln.out];omega),List.getElem?_eq_none (by rw[List.length_take];omega)]
        rw[e]
        conv=>lhs;rw[<-List.take_append_drop kk dk.toList,gF]
        rw[List.take_left' (by rw[jR,List.length_take];simp;omega)]
       clear hO hfz;have hkz:kk<=zs.length:=by omega
       have hkc:kk<=c:=by omega
       go_wp2;exact HR.out (.slice (some ⟨g,0,none⟩) kk c) _ (aO (hfin.out _).1 hln.out.symm rfl) (hfin.out _).2
    ·have hkd:Hid (keeps zs.toArray k=true):=by
      refine keeps_pos ?_;rw[B.out.1,B.out.2];intro e;injection e with e1 e2
      subst e1 e2;simp at hdiff
     have hnext:Hid (∀ j,j<k+1->keeps zs.toArray j=true):=by
      intro j hj
      by_cases e:j=k
      ·subst e;exact hkd.out
      ·exact hall.out j (by omega)
     clear B hkd
     have hdiff2:(x1==y1)=false∨(x1=y1/\(x2==y2)=false):=by
      rcases hdiff with t|⟨t,t'⟩
      ·exact .inl t
      ·exact .inr ⟨by simpa using t,t'⟩
     clear hdiff
     rcases hdiff2 with t2|⟨rfl,t2⟩
     all_goals
      go_wp2
      go_quiet (fail)
      go_wp2;go_roundw
      case rel=>exact⟨k+1,_,by omega,by omega,by go_num,rfl,hnext.out⟩
      case measure=>simp[Go.RowKit.intOf];omega
   ·obtain rfl:k=zs.length:=by omega
    go_wp2;refine HR.out _ _ ?_ (hg0.dn _);rw[same.out hall.out];exact hown
end Go.Proofs.YtjalimkajcjapaaGreatDoor
namespace Go.Proofs.YtjalimkajcjapaaGreatDoor
set_option maxRecDepth 100000
open Go.RowKit Go.Lib
set_option maxHeartbeats 1000000 in
theorem nF (l:List Pt)(v:Value)(S:Nat->Prop)(w:World)(hb:Rd w S 2 v l.length (Pts l))(hl:l.length<=1000000){R:Ending->World->Prop}
  (hR:∀ r w',w'.ownsRow w.heap.size 51 2 r l.length (Pts l)->aB w w'->R (.returned r) w'):
  Calls Tryz.prog 52 #[v] w R:=by
 have HB:=Lh hb;have hR:=Lh hR;obtain⟨_,A,c,rfl,h1,h2,h3,h4⟩:=hb;rcases A with _|a
 ·have hne:=fun w=>Lib.run_eql_slice_nil (P:=Tryz.prog) w 58 51 none 0 0 0 0 gM.ht
  obtain rfl:c=0:=h3 rfl;obtain rfl:l=[]:=List.eq_nil_of_length_eq_zero (by omega);clear h4 h2 h3;go_enter Tryz.func52,Tryz.ntmps52
  go_wp2;exact hR.out _ _ (World.ownsRow_nil _ _ _ _) (aB.refl _)
 ·have hne:=fun w=>Lib.run_eql_slice_nil (P:=Tryz.prog) w 58 51 (some a) l.length c 0 0 gM.ht
  clear h3 h4 h2;have hrow:=Lh (World.ownsRow_lit (base:=w.heap.size) (e:=51) (size:=2) w #[] 0 (Nat.le_refl _) (by decide) rfl);go_enter Tryz.func52,Tryz.ntmps52
  go_wp2_with (at_builtin;refine fT rfl _ _ rfl gM hrow.out rfl (HB.out.al (by decide) _) rfl (Pts_one _) (by omega) (by simp) ?_;intro v1 w1 hown1 hgr1 hb1)
  exact hR.out _ _ (aO hown1 (by simp) (by simp)) (bK ((aB.refl w).al _) hgr1 (cA hrow.out))
theorem rG (l:List Pt)(k:Nat):(Pts l).take (k*2)=Pts (l.take k):=by
 by_cases h:k<=l.length
 ·conv=>lhs;rw[<-List.take_append_drop k l,gF]
  rw[List.take_left' (by rw[jR,List.length_take];omega)]
 ·rw[List.take_of_length_le (by rw[jR];omega),List.take_of_length_le (by omega)]
def bD (xs:List Pt):Nat->Nat
 |0=>0
 |m+1=>if 1<=m/\xs[m]? =xs[0]? then bD xs m else m+1
theorem yC (xs:List Pt):∀ m,bD xs m<=m
 |0=>Nat.le_refl _
 |m+1=>by
  have:=yC xs m;unfold bD
  split<;>omega
def bU (xs:List Pt)(closed:Bool):List Pt:=if closed then(compact xs).take (bD (compact xs) (compact xs).length) else compact xs
set_option maxHeartbeats 2000000 in
theorem lR (l:List Pt)(closed:Bool)(v:Value)(S:Nat->Prop)(w:World)(hb:Rd w S 2 v l.length (Pts l))(hl:l.length<=1000000){R:Ending->World->Prop}
  (hR:∀ r w',w'.ownsRow w.heap.size 51 2 r (bU l closed).length (Pts (bU l closed))->aB w w'->R (.returned r) w'):
  Calls Tryz.prog 81 #[v,.bool closed] w R:=by
 have HR:=Lh hR;clear hR;have HB:=Lh hb;clear hb;have hsd:bU l closed=if closed then(compact l).take (bD (compact l) (compact l).length) else compact l:=rfl;have HS:=Lh hsd;clear hsd;go_enter Tryz.func81,Tryz.ntmps81
 go_wp2_with fail
 refine nF l v S w HB.out hl ?_;intro r1 w1 hown1 hg1;have HG1:=Lh hg1;have HO1:=Lh hown1;clear hg1 hown1;go_wp2_with fail
 refine xL l r1 _ w w1 HO1.out HG1.out (Nat.le_refl _) ?_;intro r2 w2 hown2 hg2;have HG2:=Lh hg2;clear HG1 HO1 hg2;generalize compact l=C at*;go_wp2
 go_loopw [5] (fun s5 wr=>∃ (m c:Nat) (A:Option Addr),s5=.slice A m c/\m<=C.length/\wr.ownsRow w.heap.size 51 2 (.slice A m c) m (Pts (C.take m))/\Hid (closed=true->bD C C.length=bD C m)/\Hid (closed=false->m=C.length)/\Hid (aB w wr)) (fun s5 _=>match s5 with|.slice _ n _=>n|_=>0)
 case atStart=>
  obtain⟨_,A,c,h,_⟩:=Rd.own hown2;subst h;exact⟨C.length,c,A,rfl,Nat.le_refl _,by rw[List.take_length];exact hown2,fun _=>rfl,fun _=>rfl,HG2.out⟩
 case round=>
  obtain⟨m,c,A,rfl,hm,hO,hT,hF,hG⟩:=hrel
  have hcap:m<=c/\c<=9223372036854775807:=by
   obtain⟨_,A',c',h,h1,h3,_⟩:=Rd.own hO;injection h with _ _ h
   subst h;exact⟨h1,h3⟩
  obtain⟨hcap1,hcap2⟩:=hcap
  have done:Hid (∀ n,(closed=true->bD C m=m)->R (.returned (.slice A m c)) (World.drewN wr n)):=by
   intro n hd;refine HR.out _ _ ?_ (hG.out.dn _)
   have e:bU l closed=C.take m:=by
    rw[HS.out]
    cases closed with
    |true=>rw[if_pos rfl,hT.out rfl,hd rfl]
    |false=>rw[if_neg (by simp),hF.out rfl,List.take_length]
   rw[e];exact aO (aJ hO ((aB.refl _).dn _)) (by rw[List.length_take];omega) rfl
  cases closed with
  |false=>
   go_wp2
   go_quiet (fail)
   go_wp2;exact done.out _ (by simp)
  |true=>
   by_cases hm1:1<m
   ·obtain⟨g,rfl⟩:∃ g,A=some ⟨g,0,none⟩:=by
     rcases hO.2 with ⟨h,h0⟩|⟨g,cap,cur,h,_⟩
     ·omega
     ·injection h with h
      exact⟨g,h⟩
    have t1:decide (1<(m:Int))=true:=by simp;omega
    have e1:=gQ hO (j:=m-1) (by rw[List.length_take];omega);have e2:=gQ hO (j:=0) (by rw[List.length_take];omega)
    have B:Hid (C[m-1]? =some ((C.take m)[m-1]'(by rw[List.length_take];omega))/\C[0]? =some ((C.take m)[0]'(by rw[List.length_take];omega))):=by
     refine⟨?_,?_⟩<;>(rw[List.getElem_take];exact List.getElem?_eq_getElem (by omega))
    have HO:=Lh hO;clear hO;generalize (C.take m)[m-1]'(by rw[List.length_take];omega)=x at*;generalize (C.take m)[0]'(by rw[List.length_take];omega)=y at*;obtain⟨x1,x2⟩:=x;obtain⟨y1,y2⟩:=y;have c1:=e1 0 _ rfl;have c2:=e1 1 _ rfl;have d1:=e2 0 _ rfl;have d2:=e2 1 _ rfl;simp only[Nat.add_zero,Nat.zero_mul,Nat.zero_add] at c1 d1 d2;clear e1 e2;have hsub:((m:Int)-1)=((m-1:Nat):Int):=by omega
    have hm2:m-1<m:=by omega
    have hm3:0<m:=by omega
    have split:(x1=y1/\x2=y2)∨((x1==y1)=false∨(x1=y1/\(x2==y2)=false)):=by
     by_cases a:x1=y1<;>by_cases b:x2=y2<;>simp[a,b]
    rcases split with ⟨rfl,rfl⟩|hdiff
    ·have hstep:Hid (bD C m=bD C (m-1)):=by
      obtain⟨k,rfl⟩:∃ k,m=k+1:=⟨m-1,by omega⟩
      show bD C (k+1)=_;rw[bD,if_pos ⟨by omega,by simpa using B.out.1.trans B.out.2.symm⟩];rfl
     clear B;go_wp2
     go_quiet (fail)
     go_wp2;go_roundw
     case rel=>exact⟨m-1,c,_,by go_num,by omega,aO (oY (aJ HO.out ((aB.refl _).dn _)) (by omega) (by omega)) rfl (by rw[rG,List.take_take,Nat.min_eq_left (by omega)]),fun _=>(by simpa using hT.out:bD C C.length=bD C m).trans hstep.out,fun h=>by simp at h,hG.out.dn _⟩
     case measure=>simp;omega
    ·have hstop:Hid (bD C m=m):=by
      obtain⟨k,rfl⟩:∃ k,m=k+1:=⟨m-1,by omega⟩
      show bD C (k+1)=k+1;rw[bD,if_neg];rintro⟨_,h⟩;have h:=B.out.1.symm.trans ((by simpa using h:C[k+1-1]? =C[0]?).trans B.out.2);injection h with h
      injection h with h1 h2
      subst h1 h2;simp at hdiff
     clear B
     rcases hdiff with t2|⟨rfl,t2⟩
     all_goals
      go_wp2
      go_quiet (fail)
      go_wp2;exact done.out _ (fun _=>hstop.out)
   ·have t1:decide (1<(m:Int))=false:=by simp;omega
    have hstop:Hid (bD C m=m):=by
     match m,hm1 with
     |0,_=>rfl
     |1,_=>show bD C 1=1;simp[bD]
     |m+2,h=>omega
    go_wp2
    go_quiet (fail)
    go_wp2;exact done.out _ (fun _=>hstop.out)
end Go.Proofs.YtjalimkajcjapaaGreatDoor
namespace Go.Proofs.YtjalimkajcjapaaGreatDoor
set_option maxRecDepth 100000
open Go.RowKit Go.Lib B
end Go.Proofs.YtjalimkajcjapaaGreatDoor
namespace Go.Proofs.YtjalimkajcjapaaGreatDoor
set_option maxRecDepth 100000
open Go.RowKit Go.Lib B
theorem uM (d:Array Pt)(m:Nat):compactUpTo d (m+1)=compactUpTo d m++(if keeps d m=true then[d[m]!] else[]):=by
 unfold compactUpTo;rw[List.range_succ,List.filter_append,List.map_append]
 by_cases h:keeps d m=true<;>simp[h]
theorem qK (d:Array Pt):keeps d 0=true:=by simp[keeps]
theorem last_cu (d:Array Pt):∀ k,(compactUpTo d (k+1)).getLast? =some d[k]!
 |0=>by rw[uM,qK];simp[compactUpTo]
 |k+1=>by
  rw[uM]
  cases h:keeps d (k+1) with
  |true=>simp
  |false=>
   have ih:=last_cu d k;have:d[k+1]! =d[k]! :=by simpa [keeps] using h
   simp[ih,this]
set_option maxHeartbeats 4000000 in
theorem oG (l:List Pt)(closed:Bool)(v:Value)(S:Nat->Prop)(w:World)(hb:Rd w S 2 v l.length (Pts l))(hl:l.length<=1000000){R:Ending->World->Prop}
  (hR:∀ r w',w'.ownsRow w.heap.size 51 2 r (bU l closed).length (Pts (bU l closed))->aB w w'->R (.returned r) w'):
  Calls Tryz.prog 65 #[v,.bool closed] w R:=by
 have HR:=Lh hR;clear hR;have hb:=hb.lt (by decide);have HB:=Lh hb;obtain⟨_,A0,c0,rfl,h1,h2,h3,h4⟩:=hb;unfold maxLen at h2;have hsd:bU l closed=if closed then(compactUpTo l.toArray l.length).take (bD (compactUpTo l.toArray l.length) (compactUpTo l.toArray l.length).length) else compactUpTo l.toArray l.length:=rfl;have HS:=Lh hsd;clear hsd;go_enter Tryz.func65,Tryz.ntmps65
 go_wp2
 go_loopw [6,5] (fun i s wr=>∃ (k m c:Nat) (A:Option Addr),k<=l.length/\i=.int .i64 k/\s=.slice A m c/\m<=k/\Hid (m=(compactUpTo l.toArray k).length)/\wr.ownsRow w.heap.size 51 2 (.slice A m c) m (Pts (compactUpTo l.toArray k))/\Hid (aB w wr)) (fun i _ _=>l.length-(Go.RowKit.intOf i).toNat)
 case atStart=>exact⟨0,0,0,none,Nat.zero_le _,rfl,rfl,Nat.le_refl _,rfl,World.ownsRow_nil _ _ _ _,aB.refl _⟩
 case round=>
  obtain⟨k,m,c,A,hk,rfl,rfl,hmk,hm,hown,hg⟩:=hrel
  by_cases hlt:k<l.length
  ·obtain⟨b,o,rfl,hS,hc⟩:=h4 (by omega)
   have e1:=fun W (h:aB w W)=>aL Pt.cells_len h hS hc hlt
   have HA:Hid (l.toArray[k]! =l[k]):=by show _=_;simp[hlt]
   have HSu:Hid (compactUpTo l.toArray (k+1)=compactUpTo l.toArray k++(if keeps l.toArray k=true then[l.toArray[k]!] else[])):=uM _ _;have HO:=Lh hown;clear hc h4 h3;generalize hx:l[k]=x at*;have HLX:=Lh hx;clear hx;obtain⟨x1,x2⟩:=x
   have E1:Hid (∀ W,aB w W->W.cell? ⟨b,o+k*2,none⟩=some (.int .i64 x1)/\W.cell? ⟨b,o+k*2+1,none⟩=some (.int .i64 x2)):=fun W h=>⟨e1 W h 0 _ rfl,e1 W h 1 _ rfl⟩
   clear e1;rcases Nat.eq_zero_or_pos k with h0|h0
   ·subst h0
    obtain rfl:m=0:=by omega
    have HK:Hid (keeps l.toArray 0=true):=qK _;clear hown;obtain⟨y0,y1⟩:=E1.out _ hg.out;go_wp2
    go_quiet (fail)
    clear y0 y1;have HG:=Lh (hg.out.dn nq);obtain⟨y0,y1⟩:=E1.out _ HG.out
    try simp only[Nat.zero_mul,Nat.add_zero] at y0 y1
    go_wp2_with (at_builtin;refine bJ rfl _ _ rfl gM (aJ HO.out ((aB.refl _).dn nq)) rfl 1 _ rfl (by decide) rfl (by simp[Value.oneCell']) (by omega) HG.out ⟨Nat.le_refl _,HG.out.size⟩ ?_;intro v1 w4 hown4 hg4 hgr4 hb4;have HG4:=Lh hg4;have HO4:=Lh hown4;clear hg4 hgr4 hb4 hown4 y0 y1)
    go_roundw
    case rel=>
     obtain⟨_,A',c',hv,_⟩:=Rd.own HO4.out;refine⟨0+1,0+1,c',A',by omega,by go_num,hv,by omega,?_,?_,HG4.out⟩
     ·show _=_
      rw[HSu.out,if_pos HK.out,List.length_append,<-hm.out];rfl
     ·rw[<-hv]
      exact aO HO4.out rfl (by rw[HSu.out,if_pos HK.out,HA.out,gF];rfl)
    case measure=>simp[Go.RowKit.intOf];omega
   ·obtain⟨k,rfl⟩:∃ j,k=j+1:=⟨k-1,by omega⟩
    have hlast:=last_cu l.toArray k;have HY:Hid (l.toArray[k]! =l[k]'(by omega)):=by show _=_;simp[show k<l.length by omega]
    have hmp:0<m:=by
     rw[hm.out];rcases Nat.eq_zero_or_pos (compactUpTo l.toArray (k+1)).length with h|h
     ·rw[List.eq_nil_of_length_eq_zero h] at hlast;simp at hlast
     ·exact h
    obtain⟨g,rfl⟩:∃ g,A=some ⟨g,0,none⟩:=by
     rcases HO.out.2 with ⟨h,h0⟩|⟨g,cap,cur,h,_⟩
     ·injection h with _ h _;omega
     ·injection h with h
      exact⟨g,h⟩
    have hcap:m<=c/\c<=9223372036854775807:=by
     obtain⟨_,A',c',h,h1,h3,_⟩:=Rd.own HO.out;injection h with _ _ h
     subst h;exact⟨h1,h3⟩
    obtain⟨hcap1,hcap2⟩:=hcap
    have hZ:(compactUpTo l.toArray (k+1))[m-1]? =some (l[k]'(by omega)):=by
     rw[<-HY.out,<-hlast,List.getLast?_eq_getElem?,hm.out]
    obtain⟨hj,hZ⟩:=List.getElem?_eq_some_iff.1 hZ;have e2:=gQ (zs:=compactUpTo l.toArray (k+1)) HO.out hj;rw[hZ] at e2
    have HD:Hid ((keeps l.toArray (k+1)=true↔(⟨x1,x2⟩:Pt)≠l[k]'(by omega))):=by
     show _↔_;rw[<-HY.out,<-HA.out];simp[keeps]
    clear hown HY HLX hlast hZ;generalize l[k]'(by omega)=y at*;obtain⟨p1,p2⟩:=y;have z0:=e2 0 _ rfl;have z1:=e2 1 _ rfl;clear e2 hj;simp only[Nat.add_zero] at z0;obtain⟨y0,y1⟩:=E1.out _ hg.out;have hsub:((m:Int)-1)=((m-1:Nat):Int):=by omega
    have hm2:m-1<m:=by omega
    have t0:((m:Int)==0)=false:=by simp;omega
    have split:(p1=x1/\p2=x2)∨((p1 != x1)=true∨(p1=x1/\(p2 != x2)=true)):=by
     by_cases a:p1=x1<;>by_cases b:p2=x2<;>simp[a,b]
    rcases split with ⟨rfl,rfl⟩|hdiff
    ·have HK:Hid (¬ keeps l.toArray (k+1)=true):=by
      show ¬ _;rw[HD.out];simp
     go_wp2
     go_quiet (fail)
     go_wp2;go_roundw
     case rel=>exact⟨k+2,m,c,_,by omega,by go_num,rfl,by omega,(by rw[HSu.out,if_neg HK.out,List.append_nil];exact hm.out:m=(compactUpTo l.toArray (k+1+1)).length),by rw[HSu.out,if_neg HK.out,List.append_nil];exact aJ HO.out ((aB.refl _).dn _),hg.out.dn _⟩
     case measure=>simp[Go.RowKit.intOf];omega
    ·have HK:Hid (keeps l.toArray (k+1)=true):=by
      show _=_;rw[HD.out];rintro h;injection h with h1 h2
      subst h1 h2;simp at hdiff
     rcases hdiff with t2|⟨rfl,t2⟩
     ·have t3:(p1==x1)=false:=by simpa using t2
      go_wp2
      go_quiet (fail)
      clear y0 y1 z0 z1;have HG:=Lh (hg.out.dn nq);obtain⟨y0,y1⟩:=E1.out _ HG.out
      try simp only[Nat.zero_mul,Nat.add_zero] at y0 y1
      go_wp2_with (at_builtin;refine bJ rfl _ _ rfl gM (aJ HO.out ((aB.refl _).dn nq)) rfl 1 _ rfl (by decide) rfl (by simp[Value.oneCell']) (by omega) HG.out ⟨Nat.le_refl _,HG.out.size⟩ ?_;intro v1 w4 hown4 hg4 hgr4 hb4;have HG4:=Lh hg4;have HO4:=Lh hown4;clear hg4 hgr4 hb4 hown4 y0 y1)
      go_roundw
      case rel=>
       obtain⟨_,A',c',hv,_⟩:=Rd.own HO4.out;refine⟨k+1+1,m+1,c',A',by omega,by go_num,hv,by omega,?_,?_,HG4.out⟩
       ·show _=_
        rw[HSu.out,if_pos HK.out,List.length_append,<-hm.out];rfl
       ·rw[<-hv]
        exact aO HO4.out rfl (by rw[HSu.out,if_pos HK.out,HA.out,gF];rfl)
      case measure=>simp[Go.RowKit.intOf];omega
     ·have t3:(p2==x2)=false:=by simpa using t2
      go_wp2
      go_quiet (fail)
      clear y0 y1 z0 z1;have HG:=Lh (hg.out.dn nq);obtain⟨y0,y1⟩:=E1.out _ HG.out
      try simp only[Nat.zero_mul,Nat.add_zero] at y0 y1
      go_wp2_with (at_builtin;refine bJ rfl _ _ rfl gM (aJ HO.out ((aB.refl _).dn nq)) rfl 1 _ rfl (by decide) rfl (by simp[Value.oneCell']) (by omega) HG.out ⟨Nat.le_refl _,HG.out.size⟩ ?_;intro v1 w4 hown4 hg4 hgr4 hb4;have HG4:=Lh hg4;have HO4:=Lh hown4;clear hg4 hgr4 hb4 hown4 y0 y1)
      go_roundw
      case rel=>
       obtain⟨_,A',c',hv,_⟩:=Rd.own HO4.out;refine⟨k+1+1,m+1,c',A',by omega,by go_num,hv,by omega,?_,?_,HG4.out⟩
       ·show _=_
        rw[HSu.out,if_pos HK.out,List.length_append,<-hm.out];rfl
       ·rw[<-hv]
        exact aO HO4.out rfl (by rw[HSu.out,if_pos HK.out,HA.out,gF];rfl)
      case measure=>simp[Go.RowKit.intOf];omega
  ·obtain rfl:k=l.length:=by omega
   have hgc:=hg.out;generalize hC:compactUpTo l.toArray l.length=C at*;clear hC;clear h4 h3;go_wp2
   go_loopw [5] (fun s5 wr=>∃ (m c:Nat) (A:Option Addr),s5=.slice A m c/\m<=C.length/\wr.ownsRow w.heap.size 51 2 (.slice A m c) m (Pts (C.take m))/\Hid (closed=true->bD C C.length=bD C m)/\Hid (closed=false->m=C.length)/\Hid (aB w wr)) (fun s5 _=>match s5 with|.slice _ n _=>n|_=>0)
   case atStart=>
    exact⟨m,c,A,rfl,by rw[hm.out];exact Nat.le_refl _,by have:=hown;rw[hm.out] at this ⊢;rw[List.take_length];exact this,fun _=>by rw[hm.out],fun _=>hm.out,hg.out⟩
   case round=>
    clear hown hm hmk hg;obtain⟨m,c,A,rfl,hm,hO,hT,hF,hG⟩:=hrel
    have hcap:m<=c/\c<=9223372036854775807:=by
     obtain⟨_,A',c',h,h1,h3,_⟩:=Rd.own hO;injection h with _ _ h
     subst h;exact⟨h1,h3⟩
    obtain⟨hcap1,hcap2⟩:=hcap
    have done:Hid (∀ n,(closed=true->bD C m=m)->R (.returned (.slice A m c)) (World.drewN wr n)):=by
     intro n hd;refine HR.out _ _ ?_ (hG.out.dn _)
     have e:bU l closed=C.take m:=by
      rw[HS.out]
      cases closed with
      |true=>rw[if_pos rfl,hT.out rfl,hd rfl]
      |false=>rw[if_neg (by simp),hF.out rfl,List.take_length]
     rw[e];exact aO (aJ hO ((aB.refl _).dn _)) (by rw[List.length_take];omega) rfl
    cases closed with
    |false=>
     go_wp2
     go_quiet (fail)
     go_wp2;exact done.out _ (by simp)
    |true=>
     by_cases hm1:1<m
     ·obtain⟨g,rfl⟩:∃ g,A=some ⟨g,0,none⟩:=by
       rcases hO.2 with ⟨h,h0⟩|⟨g,cap,cur,h,_⟩
       ·omega
       ·injection h with h
        exact⟨g,h⟩
      have t1:decide (1<(m:Int))=true:=by simp;omega
      have e2:=gQ hO (j:=m-1) (by rw[List.length_take];omega);have e1:=gQ hO (j:=0) (by rw[List.length_take];omega)
      have B:Hid (C[0]? =some ((C.take m)[0]'(by rw[List.length_take];omega))/\C[m-1]? =some ((C.take m)[m-1]'(by rw[List.length_take];omega))):=by
       refine⟨?_,?_⟩<;>(rw[List.getElem_take];exact List.getElem?_eq_getElem (by omega))
      have HO:=Lh hO;clear hO;generalize (C.take m)[0]'(by rw[List.length_take];omega)=x at*;generalize (C.take m)[m-1]'(by rw[List.length_take];omega)=y at*;obtain⟨x1,x2⟩:=x;obtain⟨y1,y2⟩:=y;have c1:=e1 0 _ rfl;have c2:=e1 1 _ rfl;have d1:=e2 0 _ rfl;have d2:=e2 1 _ rfl;simp only[Nat.add_zero,Nat.zero_mul,Nat.zero_add] at c1 c2 d1;clear e1 e2;have hsub:((m:Int)-1)=((m-1:Nat):Int):=by omega
      have hm2:m-1<m:=by omega
      have hm3:0<m:=by omega
      have split:(x1=y1/\x2=y2)∨((x1==y1)=false∨(x1=y1/\(x2==y2)=false)):=by
       by_cases a:x1=y1<;>by_cases b:x2=y2<;>simp[a,b]
      rcases split with ⟨rfl,rfl⟩|hdiff
      ·have hstep:Hid (bD C m=bD C (m-1)):=by
        obtain⟨k,rfl⟩:∃ k,m=k+1:=⟨m-1,by omega⟩
        show bD C (k+1)=_;rw[bD,if_pos ⟨by omega,by simpa using B.out.2.trans B.out.1.symm⟩];rfl
       clear B;go_wp2
       go_quiet (fail)
       go_wp2;go_roundw
       case rel=>exact⟨m-1,c,_,by go_num,by omega,aO (oY (aJ HO.out ((aB.refl _).dn _)) (by omega) (by omega)) rfl (by rw[rG,List.take_take,Nat.min_eq_left (by omega)]),fun _=>(by simpa using hT.out:bD C C.length=bD C m).trans hstep.out,fun h=>by simp at h,hG.out.dn _⟩
       case measure=>simp;omega
      ·have hstop:Hid (bD C m=m):=by
        obtain⟨k,rfl⟩:∃ k,m=k+1:=⟨m-1,by omega⟩
        show bD C (k+1)=k+1;rw[bD,if_neg];rintro⟨_,h⟩;have h:=B.out.1.symm.trans ((by simpa using h.symm:C[0]? =C[k+1-1]?).trans B.out.2);injection h with h
        injection h with h1 h2
        subst h1 h2;simp at hdiff
       clear B
       rcases hdiff with t2|⟨rfl,t2⟩
       all_goals
        go_wp2
        go_quiet (fail)
        go_wp2;exact done.out _ (fun _=>hstop.out)
     ·have t1:decide (1<(m:Int))=false:=by simp;omega
      have hstop:Hid (bD C m=m):=by
       match m,hm1 with
       |0,_=>rfl
       |1,_=>show bD C 1=1;simp[bD]
       |m+2,h=>omega
      go_wp2
      go_quiet (fail)
      go_wp2;exact done.out _ (fun _=>hstop.out)
end Go.Proofs.YtjalimkajcjapaaGreatDoor
