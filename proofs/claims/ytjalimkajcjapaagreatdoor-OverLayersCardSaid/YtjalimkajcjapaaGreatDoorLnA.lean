import Derived.Test.YtjalimkajcjapaaGreatDoorLClip
namespace Go.Proofs.YtjalimkajcjapaaGreatDoor
set_option maxRecDepth 100000
open Go.RowKit B
theorem cyc_st (l:List Pt):∀ k,k<=l.length->(bO stN l k).map cH.s=(l.take k).map bI
 |0,_=>rfl
 |k+1,h=>by
  rw[iI _ _ _ (by omega) (Nat.mod_lt _ (by omega)),List.map_append,cyc_st l k (by omega),List.take_succ_eq_append_getElem (by omega),List.map_append];rfl
theorem lineE_far {l:List Pt}{lo hi:Int}(h:cY l lo hi=0):lo<=hi/\inw lo=true/\inw hi=true/\∀ p∈l,inw p.x=true/\inw p.y=true:=by
 unfold cY at h
 split at h
 ·omega
 ·rename_i h1
  split at h
  ·omega
  ·rename_i h2
   simp only[Bool.or_eq_true,not_or,Bool.not_eq_true',Bool.not_eq_false,Bool.not_eq_true] at h2;refine⟨by omega,by simpa using h2.1.1,by simpa using h2.1.2,fun p hp=>?_⟩;have:=List.any_eq_false.1 h2.2 p hp;unfold Pt.far at this
   cases h5:inw p.x<;>cases h6:inw p.y<;>simp_all
def xW {α:Type}(a b:List α):Prop:=∃ u v,a=u++v/\b=v++u
theorem mod_shift {i a b:Nat}(hi:i<a):(b+i+1)%(b+a)=if i+1<a then b+(i+1) else 0:=by
 split
 ·rw[Nat.mod_eq_of_lt (by omega)];omega
 ·rw[show b+i+1=b+a by omega,Nat.mod_self]
theorem sR {α β:Type}(f:α->α->List β)(u v:List α)(i:Nat)(hi:i<u.length):jH f (u++v) i=jH f (v++u) (v.length+i):=by
 unfold jH
 have e1:(u++v)[i]? =(v++u)[v.length+i]? :=by
  rw[List.getElem?_append_left hi,List.getElem?_append_right (by omega)];congr 1;omega
 have e2:(u++v)[(i+1)%(u++v).length]? =(v++u)[(v.length+i+1)%(v++u).length]? :=by
  rw[List.length_append,List.length_append,mod_shift hi]
  by_cases h:i+1<u.length
  ·rw[if_pos h,Nat.mod_eq_of_lt (by omega),List.getElem?_append_left h,List.getElem?_append_right (by omega)];congr 1;omega
  ·rw[if_neg h]
   obtain rfl|hv:=Nat.eq_zero_or_pos v.length |>.imp List.eq_nil_of_length_eq_zero id
   ·have:i+1=u.length:=by omega
    simp[this]
   ·rw[Nat.mod_eq_of_lt (by omega),List.getElem?_append_right (by omega),List.getElem?_append_left hv]
    congr 1
    omega
 rw[e1,e2]
theorem mA {β:Type}{F G:Nat->List β}:∀ n,(∀ i,i<n->F i=G i)->(List.range n).flatMap F=(List.range n).flatMap G:=by
 intro n
 induction n with
 |zero=>intro _;rfl
 |succ n ih=>
  intro h;rw[List.range_succ,List.flatMap_append,List.flatMap_append,ih fun i hi=>h i (by omega)];simp[h n (by omega)]
theorem qR {β:Type}(F:Nat->List β)(m:Nat):∀ n,(List.range (m+n)).flatMap F=(List.range m).flatMap F++(List.range n).flatMap (fun i=>F (m+i)):=by
 intro n
 induction n with
 |zero=>simp
 |succ n ih=>
  rw[<-Nat.add_assoc,List.range_succ,List.flatMap_append,ih,List.range_succ,List.flatMap_append,List.append_assoc];simp
theorem cyc_rot {α β:Type}(f:α->α->List β){a b:List α}(h:xW a b):xW (bO f a a.length) (bO f b b.length):=by
 obtain⟨u,v,rfl,rfl⟩:=h;refine⟨(List.range u.length).flatMap (jH f (u++v)),(List.range v.length).flatMap (jH f (v++u)),?_,?_⟩
 ·unfold bO
  rw[List.length_append,qR];congr 1
  exact mA _ fun i hi=>(sR f v u i hi).symm
 ·unfold bO
  rw[List.length_append,qR];congr 1
  exact mA _ fun i hi=>(sR f u v i hi).symm
theorem tL (x:Int):0<x.sign↔0<x:=by
 rcases Int.lt_trichotomy x 0 with h|h|h
 ·rw[Int.sign_eq_neg_one_of_neg h];omega
 ·subst h;simp
 ·rw[Int.sign_eq_one_of_pos h];omega
theorem lK (a b:Wn):a.after b=true↔0<a.n*b.d-b.n*a.d:=by
 unfold Wn.after;rw[decide_eq_true_eq,cmpW_eq,tL]
theorem after_not (a b:Wn):a.after b=false↔a.n*b.d-b.n*a.d<=0:=by
 rw[<-Bool.not_eq_true,lK];omega
def co (up:Bool)(p:Pt):Int:=if up=true then p.y else p.x
structure WG (p q:Pt) (lo hi:Int) (a:Wn):Prop where
 pos:0<a.d
 ge:0<=a.n
 le:a.n<=a.d
 en:a.en=true->a.d=1
 at_:a.en=false->(a.c=lo∨a.c=hi)/\co a.up p≠co a.up q/\a.d=max (co a.up q-co a.up p) (co a.up p-co a.up q)/\a.n=(a.c-co a.up p)*(if co a.up q<co a.up p then -1 else 1)
theorem WG0 (p q:Pt)(lo hi:Int):WG p q lo hi W0/\WG p q lo hi W1:=
 ⟨⟨by decide,by decide,by decide,fun _=>rfl,fun h=>by cases h⟩,⟨by decide,by decide,by decide,fun _=>rfl,fun h=>by cases h⟩⟩
theorem sD {p q:Pt}{lo hi:Int}{i0 i1 j0 j1:Wn}{up:Bool}(h0:WG p q lo hi i0)(h1:WG p q lo hi i1)(h:gH i0 i1 (co up p) (co up q) lo hi up=(j0,j1,true)):WG p q lo hi j0/\WG p q lo hi j1:=by
 unfold gH at h
 split at h
 ·rw[Prod.mk.injEq,Prod.mk.injEq] at h
  rw[<-h.1,<-h.2.1];exact⟨h0,h1⟩
 ·rename_i hne
  rw[Prod.mk.injEq,Prod.mk.injEq] at h;obtain⟨e0,e1,e2⟩:=h;rw[e0,e1,Bool.not_eq_true',after_not] at e2
  obtain⟨A,hA⟩:∃ A,iY (co up p) (co up q) lo hi up=A:=⟨_,rfl⟩
  obtain⟨B,hB⟩:∃ B,iX (co up p) (co up q) lo hi up=B:=⟨_,rfl⟩
  have Ad:0<A.d:=by rw[<-hA];show 0<max _ _;omega
  have Bd:0<B.d:=by rw[<-hB];show 0<max _ _;omega
  have Aat:A.en=false/\(A.c=lo∨A.c=hi)/\co A.up p≠co A.up q/\A.d=max (co A.up q-co A.up p) (co A.up p-co A.up q)/\A.n=(A.c-co A.up p)*(if co A.up q<co A.up p then -1 else 1):=by
   rw[<-hA];refine⟨rfl,?_,hne,rfl,rfl⟩;show (if _ then hi else lo)=lo∨(if _ then hi else lo)=hi
   split<;>simp
  have Bat:B.en=false/\(B.c=lo∨B.c=hi)/\co B.up p≠co B.up q/\B.d=max (co B.up q-co B.up p) (co B.up p-co B.up q)/\B.n=(B.c-co B.up p)*(if co B.up q<co B.up p then -1 else 1):=by
   rw[<-hB];refine⟨rfl,?_,hne,rfl,rfl⟩;show (if _ then lo else hi)=lo∨(if _ then lo else hi)=hi
   split<;>simp
  rw[hA] at e0;rw[hB] at e1
  have J0:0<j0.d/\0<=j0.n/\(j0.en=true->j0.d=1)/\(j0.en=false->(j0.c=lo∨j0.c=hi)/\co j0.up p≠co j0.up q/\j0.d=max (co j0.up q-co j0.up p) (co j0.up p-co j0.up q)/\j0.n=(j0.c-co j0.up p)*(if co j0.up q<co j0.up p then -1 else 1)):=by
   rw[<-e0];unfold mM
   split
   ·rename_i ha
    rw[lK] at ha;refine⟨Ad,?_,fun e=>(by rw[Aat.1] at e;cases e),fun _=>Aat.2⟩;have hp:0<=i0.n*A.d:=Int.mul_nonneg h0.ge (by omega);rcases Int.lt_or_le A.n 0 with h|h
    ·have:=Int.mul_nonneg (show 0<=-A.n by omega) (show 0<=i0.d by have:=h0.pos;omega)
     rw[Int.neg_mul] at this;omega
    ·exact h
   ·exact⟨h0.pos,h0.ge,h0.en,h0.at_⟩
  have J1:0<j1.d/\j1.n<=j1.d/\(j1.en=true->j1.d=1)/\(j1.en=false->(j1.c=lo∨j1.c=hi)/\co j1.up p≠co j1.up q/\j1.d=max (co j1.up q-co j1.up p) (co j1.up p-co j1.up q)/\j1.n=(j1.c-co j1.up p)*(if co j1.up q<co j1.up p then -1 else 1)):=by
   rw[<-e1];unfold mL
   split
   ·rename_i ha
    rw[lK] at ha;refine⟨Bd,?_,fun e=>(by rw[Bat.1] at e;cases e),fun _=>Bat.2⟩;have hp:i1.n*B.d<=i1.d*B.d:=Int.mul_le_mul_of_nonneg_right h1.le (by omega);rcases Int.lt_or_le B.d B.n with h|h
    ·have:=Int.mul_le_mul_of_nonneg_right (show B.d<=B.n by omega) (show 0<=i1.d by have:=h1.pos;omega)
     rw[Int.mul_comm i1.d] at hp;omega
    ·exact h
   ·exact⟨h1.pos,h1.le,h1.en,h1.at_⟩
  have k0:j0.n<=j0.d:=by
   have h2:j1.n*j0.d<=j1.d*j0.d:=Int.mul_le_mul_of_nonneg_right J1.2.1 (by omega);rcases Int.lt_or_le j0.d j0.n with h|h
   ·have:=Int.mul_le_mul_of_nonneg_right (show j0.d+1<=j0.n by omega) (show 0<=j1.d by omega)
    rw[Int.add_mul,Int.one_mul,Int.mul_comm j0.d j1.d] at this;omega
   ·exact h
  have k1:0<=j1.n:=by
   have h2:0<=j0.n*j1.d:=Int.mul_nonneg J0.2.1 (by omega);rcases Int.lt_or_le j1.n 0 with h|h
   ·have:=Int.mul_le_mul_of_nonneg_right (show j1.n<=-1 by omega) (show 0<=j0.d by omega)
    omega
   ·exact h
  exact⟨⟨J0.1,J0.2.1,k0,J0.2.2.1,J0.2.2.2⟩,⟨J1.1,k1,J1.2.1,J1.2.2.1,J1.2.2.2⟩⟩
theorem WG.met {p q:Pt}{lo hi:Int}{a:Wn}(h:WG p q lo hi a)(he:a.en=false):if a.up=true then eT p.swap q.swap a.c=false else eT p q a.c=false:=by
 obtain⟨h1,h2,h3,h4⟩:=h.at_ he;have g:=h.ge;have l:=h.le
 have key:min (co a.up p) (co a.up q)<=a.c/\a.c<=max (co a.up p) (co a.up q):=by
  split at h4<;>omega
 cases hu:a.up with
 |true=>
  rw[hu] at key h2;unfold co at key h2;simp only[if_true] at key h2;show eT p.swap q.swap a.c=false;unfold eT Pt.swap;simp only[Bool.or_eq_false_iff,decide_eq_false_iff_not];omega
 |false=>
  rw[hu] at key h2;unfold co at key h2;simp only[Bool.false_eq_true,if_false] at key h2;show eT p q a.c=false;unfold eT;simp only[Bool.or_eq_false_iff,decide_eq_false_iff_not];omega
theorem gV {p q:Pt}{lo hi:Int}:bY p q lo hi=false↔lo<=hi/\p.far=false/\q.far=false/\inw lo=true/\inw hi=true:=by
 unfold bY Pt.far;simp only[List.any_cons,List.any_nil,Bool.or_eq_false_iff,decide_eq_false_iff_not,Bool.not_eq_false',Bool.or_false,Int.not_lt]
 constructor
 ·rintro⟨h1,h2,h3,h4,h5,h6,h7⟩
  exact⟨h1,⟨h2,h3⟩,⟨h4,h5⟩,h6,h7⟩
 ·rintro⟨h1,⟨h2,h3⟩,⟨h4,h5⟩,h6,h7⟩
  exact⟨h1,h2,h3,h4,h5,h6,h7⟩
theorem lX {l:List Pt}{lo hi:Int}:cY l lo hi=0↔lo<=hi/\inw lo=true/\inw hi=true/\∀ p∈l,p.far=false:=by
 unfold cY
 constructor
 ·intro h
  split at h
  ·omega
  ·split at h
   ·omega
   ·rename_i h1 h2
    simp only[Bool.or_eq_true,not_or,Bool.not_eq_true',Bool.not_eq_false,Bool.not_eq_true] at h2;exact⟨by omega,by simpa using h2.1.1,by simpa using h2.1.2,fun p hp=>by simpa using List.any_eq_false.1 h2.2 p hp⟩
 ·rintro⟨h1,h2,h3,h4⟩
  rw[if_neg (by omega),h2,h3];have:l.any Pt.far=false:=List.any_eq_false.2 fun p hp=>by rw[h4 p hp];decide
  rw[this];rfl
theorem far_in {p:Pt}(h:p.far=false):inw p.x=true/\inw p.y=true:=by
 unfold Pt.far at h
 cases h1:inw p.x<;>cases h2:inw p.y<;>simp_all
theorem WG.frac {p q:Pt}{lo hi:Int}{a:Wn}(h:WG p q lo hi a)(hp:p.far=false)(hq:q.far=false)(hl:inw lo=true)(hh:inw hi=true)(he:a.en=false):inw a.c=true/\(cW p q a.c a.up).1.right=true:=by
 have hw:inw a.c=true:=by
  rcases(h.at_ he).1 with e|e<;>rw[e]<;>assumption
 refine⟨hw,?_⟩;have hm:=h.met he;unfold cW;rw[hp,hq,hw];simp only[Bool.false_or,Bool.not_true,Bool.false_eq_true,if_false]
 cases hu:a.up with
 |true=>
  rw[hu] at hm;simp only[if_true] at hm ⊢;unfold fD;rw[hm];exact(kR (by rw[Pt.swap_far];exact hp) (by rw[Pt.swap_far];exact hq) hm).1
 |false=>
  rw[hu] at hm;simp only[Bool.false_eq_true,if_false] at hm ⊢;unfold fD;rw[hm];exact(kR hp hq hm).1
end Go.Proofs.YtjalimkajcjapaaGreatDoor
