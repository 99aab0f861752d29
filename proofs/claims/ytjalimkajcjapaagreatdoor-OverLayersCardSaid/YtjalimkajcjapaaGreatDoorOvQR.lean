import Derived.Test.YtjalimkajcjapaaGreatDoorRRb
import Derived.Test.YtjalimkajcjapaaGreatDoorWindB
import Derived.Test.YtjalimkajcjapaaGreatDoorOvEF
import Derived.Test.YtjalimkajcjapaaGreatDoorOvCI
namespace Go.Proofs.YtjalimkajcjapaaGreatDoor
set_option maxRecDepth 100000
open Go.RowKit B
theorem round_iff {f:Fr}(h:f.right=true)(n:Int):f.val<(n:Rat)+1/2↔f.round<=n:=by
 obtain⟨-,hd,-,hr,-⟩:=Fr.right_iff h;unfold Fr.round;rw[if_pos h];obtain⟨q,r,d⟩:=f;dsimp only at*;have hd0:(0:Rat)<((d:Int):Rat):=dD (by omega);have hr0:(0:Rat)<=((r:Int):Rat):=by exact_mod_cast (by omega:(0:Int)<=r)
 have ev:(⟨q,r,d⟩:Fr).val=(q:Rat)+((r:Int):Rat)/((d:Int):Rat):=by unfold Fr.val;push_cast;rfl
 have he:((r:Int):Rat)/((d:Int):Rat)*((d:Int):Rat)=((r:Int):Rat):=by grind
 rw[ev]
 have hlt:((r:Int):Rat)/((d:Int):Rat)<1:=by
  rw[Rat.div_lt_iff hd0];have:((r:Int):Rat)<((d:Int):Rat):=by exact_mod_cast (by omega:(r:Int)<d)
  grind
 have hge:0<=((r:Int):Rat)/((d:Int):Rat):=by
  rw[<-Rat.not_lt];intro h;rw[Rat.div_lt_iff hd0] at h;grind
 by_cases h2:d<=2*r
 ·rw[if_pos h2]
  have hh:(1:Rat)/2<=((r:Int):Rat)/((d:Int):Rat):=by
   have:((d:Int):Rat)<=2*((r:Int):Rat):=by exact_mod_cast (by omega:(d:Int)<=2*r)
   rw[<-Rat.not_lt];intro h;rw[Rat.div_lt_iff hd0] at h;grind
  generalize ((r:Int):Rat)/((d:Int):Rat)=t at*
  constructor
  ·intro hv
   rw[<-Int.not_lt];intro hn;have:(n:Rat)<=q:=by exact_mod_cast (by omega:n<=q)
   grind
  ·intro hv
   have:(q:Rat)+1<=n:=by exact_mod_cast hv
   grind
 ·rw[if_neg h2]
  have hh:((r:Int):Rat)/((d:Int):Rat)<(1:Rat)/2:=by
   have:2*((r:Int):Rat)<((d:Int):Rat):=by exact_mod_cast (by omega:2*(r:Int)<d)
   rw[Rat.div_lt_iff hd0];grind
  generalize ((r:Int):Rat)/((d:Int):Rat)=t at*
  constructor
  ·intro hv
   rw[<-Int.not_lt];intro hn;have:(n:Rat)+1<=q:=by exact_mod_cast (by omega:n+1<=q)
   grind
  ·intro hv
   have:(q:Rat)<=n:=by exact_mod_cast hv
   grind
def jZ (z:Zm)(e:Int)(p:List Pt):List Pt:=bU ((eV (p.map (scl z e)) (-z.b) (e+z.b)).map aW.round) true
def kM (z:Zm)(e:Int)(p:List Pt):Bool:=decide (3<=(jZ z e p).length)&&decide (dM (bP (jZ z e p))=dM (bP p))
def groupL (z:Zm)(e:Int)(A:List (List Pt)):List Nat->List (List Pt)
 |[]=>[]
 |i::g=>if kM z e (A.getD i [])=true then jZ z e (A.getD i [])::((g.map fun k=>A.getD k []).filter (kM z e)).map (jZ z e) else[]
def iC (z:Zm)(e:Int)(A:List (List Pt)):List (List Pt):=(aX (fun k=>dM (bP (A.getD k []))) A.length).1.flatMap (groupL z e A)
def iN (z:Zm)(e:Int)(p:List Pt):List (List Pt):=cF (cZ (p.map (scl z e)) (-z.b) (e+z.b))
def dH (ty:Int)(z:Zm)(e:Int)(A:List (List Pt)):List (List Pt):=if ty=1 then ptL z e A else if ty=2 then A.flatMap (iN z e) else iC z e A
end Go.Proofs.YtjalimkajcjapaaGreatDoor
namespace Go.Proofs.YtjalimkajcjapaaGreatDoor
set_option maxRecDepth 100000
open Go.RowKit Go.Lib B
def gL (rl:Nat->List Pt)(ok:Nat->Bool):List Nat->List (List Pt)
 |[]=>[]
 |i::g=>if ok i=true then rl i::(g.filter ok).map rl else[]
theorem wW {rl:Nat->List Pt}{ok:Nat->Bool}{g:List Nat}(h:∀ h0:0<g.length,ok g[0]=true):gL rl ok g=(g.filter ok).map rl:=by
 cases g with
 |nil=>rfl
 |cons i g=>
  have:=h (by simp);simp only[List.getElem_cons_zero] at this;unfold gL;dsimp only;rw[if_pos this,List.filter_cons,if_pos this,List.map_cons]
theorem grpG_no {rl:Nat->List Pt}{ok:Nat->Bool}{g:List Nat}(h0:0<g.length)(h:ok g[0]=false):gL rl ok g=[]:=by
 cases g with
 |nil=>simp at h0
 |cons i g=>
  simp only[List.getElem_cons_zero] at h;unfold gL;dsimp only;rw[if_neg (by rw[h];decide)]
theorem sP {rl:Nat->List Pt}{ok:Nat->Bool}{g:List Nat}{k:Nat}(hk:k<g.length):((g.take (k+1)).filter ok).map rl=((g.take k).filter ok).map rl++(if ok g[k]=true then[rl g[k]] else[]):=by
 rw[List.take_succ_eq_append_getElem hk,List.filter_append,List.map_append];congr 1
 rw[List.filter_cons]
 split<;>rfl
def cI (ps:List aI)(lo hi:Int)(i:Nat):List Pt:=bU ((eV ((ps.map aI.l).getD i []) lo hi).map aW.round) true
def bG (ps:List aI)(ns:List Int)(lo hi:Int)(i:Nat):Bool:=decide (3<=(cI ps lo hi i).length)&&decide (dM (bP (cI ps lo hi i))=ns.getD i 0)
theorem lF (f:Nat->Int):∀ k,∀ g∈(aX f k).1,∀ i∈g,i<k
 |0=>fun g hg=>by simp[aX] at hg
 |k+1=>by
  have ih:=lF f k;intro g hg i hi;simp only[aX,jW] at hg;have up:∀ g∈(aX f k).1,∀ i∈g,i<k+1:=fun g hg i hi=>Nat.lt_succ_of_lt (ih g hg i hi)
  have app:∀ g∈(aX f k).1++[[k]],∀ i∈g,i<k+1:=fun g hg i hi=>by
   rcases List.mem_append.1 hg with hg|hg
   ·exact up g hg i hi
   ·rw[List.mem_singleton.1 hg,List.mem_singleton] at hi
    omega
  split at hg
  ·exact up g hg i hi
  ·split at hg
   ·exact app g hg i hi
   ·split at hg
    ·exact app g hg i hi
    ·rcases List.eq_nil_or_concat (aX f k).1 with h0|⟨a,b,h0⟩
     ·rw[h0] at hg;simp[dE] at hg
     ·rw[h0,List.concat_eq_append,dY] at hg
      rw[h0,List.concat_eq_append] at up;rcases List.mem_append.1 hg with hg|hg
      ·exact up g (List.mem_append.2 (.inl hg)) i hi
      ·rw[List.mem_singleton.1 hg] at hi
       rcases List.mem_append.1 hi with hi|hi
       ·exact up b (List.mem_append.2 (.inr (by simp))) i hi
       ·rw[List.mem_singleton] at hi;omega
theorem iG (f:Nat->Int):∀ k,(aX f k).1.length<=k/\∀ g∈(aX f k).1,g.length<=k
 |0=>⟨by simp[aX],fun g hg=>by simp[aX] at hg⟩
 |k+1=>by
  obtain⟨h1,h2⟩:=iG f k;simp only[aX,jW]
  have app:((aX f k).1++[[k]]).length<=k+1/\∀ g∈(aX f k).1++[[k]],g.length<=k+1:=by
   refine⟨by rw[List.length_append];show _+1<=_;omega,fun g hg=>?_⟩;rcases List.mem_append.1 hg with hg|hg
   ·have:=h2 g hg;omega
   ·rw[List.mem_singleton.1 hg];show 1<=_;omega
  split
  ·exact⟨by omega,fun g hg=>by have:=h2 g hg;omega⟩
  ·split
   ·exact app
   ·split
    ·exact app
    ·rcases List.eq_nil_or_concat (aX f k).1 with h0|⟨a,b,h0⟩
     ·rw[h0];exact⟨by simp[dE],fun g hg=>by simp[dE] at hg⟩
     ·rw[h0,List.concat_eq_append,dY]
      rw[h0,List.concat_eq_append] at h1 h2;rw[List.length_append] at h1;refine⟨by rw[List.length_append];exact Nat.le_succ_of_le h1,fun g hg=>?_⟩;rcases List.mem_append.1 hg with hg|hg
      ·have:=h2 g (List.mem_append.2 (.inl hg));omega
      ·rw[List.mem_singleton.1 hg,List.length_append]
       have:=h2 b (List.mem_append.2 (.inr (by simp)));show _+1<=_;omega
theorem qP {z:Zm}{e:Int}{A:List (List Pt)}{rl:Nat->List Pt}{ok:Nat->Bool}{g:List Nat}(hr:∀ i∈g,rl i=jZ z e (A.getD i []))(ho:∀ i∈g,ok i=kM z e (A.getD i [])):gL rl ok g=groupL z e A g:=by
 cases g with
 |nil=>rfl
 |cons i g=>
  have r0:=hr i (by simp);have o0:=ho i (by simp);unfold gL groupL;dsimp only;rw[r0,o0]
  replace hr:=fun k (hk:k∈g)=>hr k (List.mem_cons_of_mem i hk)
  replace ho:=fun k (hk:k∈g)=>ho k (List.mem_cons_of_mem i hk)
  have key:(g.filter ok).map rl=((g.map fun k=>A.getD k []).filter (kM z e)).map (jZ z e):=by
   clear r0 o0
   induction g with
   |nil=>rfl
   |cons k g ih=>
    have ih:=ih (fun j hj=>hr j (List.mem_cons_of_mem k hj)) (fun j hj=>ho j (List.mem_cons_of_mem k hj));rw[List.filter_cons,List.map_cons,List.filter_cons,ho k (by simp)]
    split
    ·rw[List.map_cons,List.map_cons,hr k (by simp),ih]
    ·exact ih
  rw[key]
theorem yG {z:Zm}{e:Int}(hz:aS z e=true){p:Pt}(hx:-1048576<=p.x/\p.x<=1048576)(hy:-1048576<=p.y/\p.y<=1048576):(scl z e p).ok:=by
 obtain⟨-,-,-,-,-,-,h7,h8,h9,h10⟩:=bA hz;have a:=gI hz hx ⟨h7,h8⟩;have b:=gI hz hy ⟨h9,h10⟩;unfold scl Pt.ok;dsimp only;refine⟨⟨by omega,by omega⟩,by omega,by omega⟩
theorem poly_law {z:Zm}{e:Int}{A:List aI}{rows:List aI}{ns:List Int}(hr:rows.map aI.l=A.map fun r=>r.l.map (scl z e))(hn:ns=A.map fun r=>dM (bP r.l)):
  ((aX (eB A) A.length).1).flatMap (gL (cI rows (-z.b) (e+z.b)) (bG rows ns (-z.b) (e+z.b)))=iC z e (A.map aI.l):=by
 unfold iC;rw[List.length_map];show _=((aX (eB A) A.length).1).flatMap _;have hlt:=lF (eB A) A.length
 have e1:∀ i,i<A.length->cI rows (-z.b) (e+z.b) i=jZ z e ((A.map aI.l).getD i []):=by
  intro i hi;unfold cI jZ;rw[hr];simp only[List.getD_eq_getElem?_getD,List.getElem?_map,List.getElem?_eq_getElem hi,Option.map_some,Option.getD_some]
 have e2:∀ i,i<A.length->bG rows ns (-z.b) (e+z.b) i=kM z e ((A.map aI.l).getD i []):=by
  intro i hi;unfold bG kM;rw[e1 i hi,hn];simp only[List.getD_eq_getElem?_getD,List.getElem?_map,List.getElem?_eq_getElem hi,Option.map_some,Option.getD_some]
 generalize (aX (eB A) A.length).1=G at*
 induction G with
 |nil=>rfl
 |cons g G ih=>
  rw[List.flatMap_cons,List.flatMap_cons,ih (fun g' hg'=>hlt g' (List.mem_cons_of_mem g hg'))];rw[qP (fun i hi=>e1 i (hlt g (by simp) i hi)) (fun i hi=>e2 i (hlt g (by simp) i hi))]
set_option maxHeartbeats 16000000 in
theorem yP (ps:List aI)(G:List cE)(ns:List Int)(a gv sv:Value)(lo hi:Int)(S S' T T' U:Nat->Prop)(w:World)(ha:Rd w S 1 a ps.length (ps.map aI.v))(hA:∀ r∈ps,r.rd w S'/\r.l.length<=1000/\∀ p∈r.l,p.ok)(hl:ps.length<=1000)
  (hg:Rd w T 1 gv G.length (G.map cE.v)) (hG:∀ g∈G,Rd w T' 1 g.v g.l.length (Ns g.l)/\(∀ i∈g.l,i<ps.length)/\g.l.length<=1000) (hgl:G.length<=1000)
  (hs:Rd w U 1 sv ns.length (Is ns)) (hns:ns.length=ps.length) (hlo:I64 lo) (hhi:I64 hi) {R:Ending->World->Prop}
  (hR:∀ r rows w',w'.ownsRow w.heap.size 58 1 r rows.length (rows.map aI.v)->dF w.heap.size w' r rows->rows.map aI.l=(G.map cE.l).flatMap (gL (cI ps lo hi) (bG ps ns lo hi))->aB w w'->R (.returned r) w'):
  Calls Tryz.prog 32 #[a,gv,sv,.int .i64 lo,.int .i64 hi] w R:=by
 have HR:=Lh hR;clear hR;have ha:=ha.lt (by decide);have hg:=hg.lt (by decide);have hs:=hs.lt (by decide);have HA0:=Lh ha;have HG0:=Lh hg;have HS0:=Lh hs;have HA:=Lh hA;have HG:=Lh hG;have HLO:=Lh (And.intro hlo hhi);clear hA hG hlo hhi;obtain⟨_,pA,pc,rfl,-,p2,-,p4⟩:=ha;obtain⟨_,gA,gc,rfl,-,g2,-,g4⟩:=hg;obtain⟨_,sA,sc,rfl,-,s2,-,s4⟩:=hs;unfold maxLen at p2 g2 s2;go_enter Tryz.func32,Tryz.ntmps32
 go_wp2
 go_loopw [22,11] (fun i s wr=>∃ (k:Nat) (rows:List aI),k<=G.length/\i=.int .i64 k/\wr.ownsRow w.heap.size 58 1 s rows.length (rows.map aI.v)/\Hid (dF w.heap.size wr s rows)/\Hid (rows.map aI.l=((G.take k).map cE.l).flatMap (gL (cI ps lo hi) (bG ps ns lo hi)))/\Hid (rows.length<=1001*k)/\Hid (aB w wr)) (fun i _ _=>G.length-(Go.RowKit.intOf i).toNat)
 case atStart=>exact⟨0,[],Nat.zero_le _,rfl,World.ownsRow_nil _ _ _ _,fun r hr=>by simp at hr,rfl,Nat.zero_le _,aB.refl _⟩
 case round=>
  obtain⟨kk,rows,hK,rfl,hown,hin,hls,hrn,hgw⟩:=hrel;obtain⟨ap,cp,rfl⟩:=aH hown
  by_cases hlt:kk<G.length
  ·obtain⟨gb,go,rfl,-,-⟩:=g4 (by omega)
   have c1:wr.cell? ⟨gb,go+kk,none⟩=some (G[kk]'hlt).v:=by
    have:=bH hgw.out HG0.out rfl (i:=kk) (by simpa using hlt);rw[List.getElem_map] at this;exact this
   obtain⟨r1,rlt,rl⟩:=HG.out (G[kk]'hlt) (List.getElem_mem hlt);have RLT:=Lh rlt
   have LS:Hid (∀ m,gL (cI ps lo hi) (bG ps ns lo hi) (G[kk]'hlt).l=m->((G.take (kk+1)).map cE.l).flatMap (gL (cI ps lo hi) (bG ps ns lo hi))=((G.take kk).map cE.l).flatMap (gL (cI ps lo hi) (bG ps ns lo hi))++m):=by
    rintro m rfl;rw[List.take_succ_eq_append_getElem hlt,List.map_append,List.flatMap_append];simp
   clear rlt g4;generalize G[kk]'hlt=gr at*;obtain⟨gv1,gl⟩:=gr;dsimp only at*;have r1:=r1.lt (by decide);have R1:=Lh r1;obtain⟨_,gA1,gc1,rfl,-,x2,-,x4⟩:=r1;unfold maxLen at x2;have HO:=Lh hown;have HRN:=Lh hrn.out;clear hown hrn
   obtain⟨m0,hm0⟩:∃ m0,m0=rows.length:=⟨_,rfl⟩
   go_wp2_with fail
   clear c1
   go_loopw [28,11] (fun i s wr=>∃ (k:Nat) (rows2:List aI),k<=gl.length/\i=.int .i64 k/\wr.ownsRow w.heap.size 58 1 s rows2.length (rows2.map aI.v)/\Hid (dF w.heap.size wr s rows2)/\Hid (rows2.map aI.l=rows.map aI.l++((gl.take k).filter (bG ps ns lo hi)).map (cI ps lo hi))/\Hid (0<k->∀ h0:0<gl.length,bG ps ns lo hi gl[0]=true)/\Hid (rows2.length<=rows.length+k)/\Hid (aB w wr)) (fun i _ _=>gl.length-(Go.RowKit.intOf i).toNat)
   case atStart=>exact⟨0,rows,Nat.zero_le _,rfl,HO.out,hin.out,by show _=_;rw[List.take_zero];simp,fun h=>by omega,Nat.le_refl _,hgw.out⟩
   case round=>
    obtain⟨k,rows2,hk,rfl,hown2,hin2,hls2,hfst,hrn2,hgw2⟩:=hrel;obtain⟨ap2,cp2,rfl⟩:=aH hown2
    by_cases hlt2:k<gl.length
    ·obtain⟨gb1,go1,rfl,-,-⟩:=x4 (by omega)
     have c2:wr.cell? ⟨gb1,go1+k,none⟩=some (.int .i64 ((gl[k]'hlt2:Nat):Int)):=by
      have:=bH hgw2.out R1.out rfl (i:=k) (by simpa [Ns] using hlt2);simp only[Ns,List.getElem_map] at this;exact this
     have ilt:gl[k]'hlt2<ps.length:=RLT.out _ (List.getElem_mem hlt2);have FS:=Lh (sP (rl:=cI ps lo hi) (ok:=bG ps ns lo hi) hlt2)
     have F0:Hid (k=0->bG ps ns lo hi (gl[k]'hlt2)=false->gL (cI ps lo hi) (bG ps ns lo hi) gl=[]):=by
      rintro rfl h;exact grpG_no (by omega) h
     have F1:Hid (bG ps ns lo hi (gl[k]'hlt2)=true∨0<k->0<k+1->∀ h0:0<gl.length,bG ps ns lo hi gl[0]=true):=by
      rintro(h|h)-h0
      ·rcases Nat.eq_zero_or_pos k with rfl|h1
       ·exact h
       ·exact hfst.out h1 h0
      ·exact hfst.out h h0
     clear x4;generalize gl[k]'hlt2=ix at*;obtain⟨pb,po,rfl,-,-⟩:=p4 (by omega);obtain⟨sb,so,rfl,-,-⟩:=s4 (by omega)
     have c3:wr.cell? ⟨pb,po+ix,none⟩=some (ps[ix]'ilt).v:=by
      have:=bH hgw2.out HA0.out rfl (i:=ix) (by simpa using ilt);rw[List.getElem_map] at this;exact this
     have ilt2:ix<ns.length:=by omega
     have C4:Hid (∀ W,aB w W->W.cell? ⟨sb,so+ix,none⟩=some (.int .i64 (ns[ix]'ilt2))):=fun W hW=>by
      have:=bH hW HS0.out rfl (i:=ix) (by simpa [Is] using ilt2);simp only[Is,List.getElem_map] at this;exact this
     obtain⟨q1,q2,q3⟩:=HA.out (ps[ix]'ilt) (List.getElem_mem ilt);have Q3:=Lh q3
     have AT:Hid (cI ps lo hi ix=bU ((eV (ps[ix]'ilt).l lo hi).map aW.round) true):=by
      show _=_;unfold cI;rw[List.getD_eq_getElem?_getD,List.getElem?_map,List.getElem?_eq_getElem ilt];rfl
     have OK:Hid (bG ps ns lo hi ix=(decide (3<=(cI ps lo hi ix).length)&&decide (dM (bP (cI ps lo hi ix))=ns[ix]'ilt2))):=by
      show _=_;unfold bG;rw[List.getD_eq_getElem?_getD,List.getElem?_eq_getElem ilt2];rfl
     have HO2:=Lh hown2;clear p4 s4 hown2 q3;generalize ps[ix]'ilt=q at*;generalize ns[ix]'ilt2=sg at*;obtain⟨v,l⟩:=q;unfold aI.rd at q1;dsimp only at*;have Q1:=Lh ((q1.lt (by decide)).gr (by decide) hgw2.out);have ROK:=Lh (nQ HLO.out.1 HLO.out.2 Q3.out 4 (Nat.le_refl _));go_wp2_with fail
     clear c2 c3;go_at_call 57;refine clip25_any l lo hi v _ wr Q1.out q2 Q3.out HLO.out.1 HLO.out.2 ?_;intro r5 w5 hO5 hg5
     have SOK:Hid ((∀ s∈eV l lo hi,s.ok)/\(eV l lo hi).length<=100000):=by
      show _/\_;unfold eV pX
      split
      ·refine⟨fun s hs=>?_,?_⟩
       ·obtain⟨n,hn,rfl⟩:=List.mem_map.1 hs
        exact ROK.out.1 n hn
       ·rw[List.length_map];have:=ROK.out.2;omega
      ·exact⟨fun s hs=>by simp at hs,by simp⟩
     have R5:=Lh (Rd.own hO5);have HO2:=Lh (aJ HO2.out hg5);have IN2:=Lh (hin2.out.grow hg5);have GW2:=Lh (hgw2.out.tr hg5);clear hO5 hg5 hin2 hgw2 ROK Q1 q1;go_upto_region 9 with fail
     generalize eV l lo hi=sp at*;go_wp2_with fail
     go_at_call 58;refine ring_any sp r5 _ w5 R5.out SOK.out.1 SOK.out.2 (fun h3 r6 w6 hO6 hg6=>?_) (fun h3 w6 hg6=>?_)
     ·have h3':=Lh h3
      clear h3;rw[<-AT.out] at hO6 h3';have HOW:=Lh HO2.out;have HO2:=Lh (aJ HO2.out hg6);have IN2:=Lh (IN2.out.grow hg6);have GW0:=Lh GW2.out;have GW2:=Lh (GW2.out.tr hg6);have R6:=Lh (Rd.own hO6)
      obtain⟨L,hL⟩:∃ L,cI ps lo hi ix=L:=⟨_,rfl⟩
      have HL:=Lh hL;rw[hL] at hO6 h3' R6 OK
      have NEW:Hid (∀ v,r6=v->dF w.heap.size w6 (.slice ap2 rows2.length cp2) [⟨v,L⟩]):=by
       rintro v rfl r hr;rw[List.mem_singleton.1 hr]
       refine(Rd.own_from hO6).into fun b hb=>⟨fun e=>?_,by have:=GW0.out.size;omega⟩
       have h2:=(HOW.out.lt b e.symm).2;omega
      obtain⟨A6,c6,rfl⟩:=aH hO6;have NEW:=Lh (NEW.out _ rfl);clear hO6 hg6 hL HOW R5 SOK GW0;go_upto_region 10 with fail
      refine aE (aB w6.drew) ((aB.refl _)) 8 [0,1,2,4,5,6,7,3] (by kernel_rfl) (by kernel_rfl) (by intro c a d v w h;cases d<;>exact h) ?_;have GD:aB w6 w6.drew:=(aB.refl w6).dr;have HO2:=Lh (aJ HO2.out GD);have IN2:=Lh (IN2.out.grow GD);have GW2:=Lh (GW2.out.tr GD);have R6:=Lh (R6.out.gr2 (by decide) GD);have NEW:Hid (dF w.heap.size w6.drew (.slice ap2 rows2.length cp2) [⟨.slice A6 L.length c6,L⟩]):=NEW.out.grow GD;clear GD;generalize w6.drew=w7 at*
      iterate 7 (apply aD;exact rfl;exact rfl;(intro W hW;have c4:=C4.out W (GW2.out.tr hW);(try clear hW);go_simp;with_reducible rfl);try simp only[Act.put,sA,sZ,sS])
      apply aG;exact rfl;exact rfl;exact rfl;intro K hK;go_simp;go_at_call 28;refine iU L _ _ w7 R6.out ?_;intro w8 hg8;refine hK.out _ _ hg8 ?_;clear hK
      try simp only[Act.put,sA,sZ,sS]
      refine aK ?_;simp only[List.drop_succ_cons,List.drop_zero];have HO2:=Lh (aJ HO2.out hg8);have IN2:=Lh (IN2.out.grow hg8);have GW2:=Lh (GW2.out.tr hg8);have NEW:=Lh (NEW.out.grow hg8);clear hg8 C4 R6
      by_cases hsg:dM (bP L)=sg
      ·have t1:(dM (bP L)==sg)=true:=by rw[beq_iff_eq];exact hsg
       have OKT:Hid (bG ps ns lo hi ix=true):=by
        show _=_;rw[OK.out,decide_eq_true h3'.out,decide_eq_true hsg];rfl
       have F1:=Lh (F1.out (.inl OKT.out))
       have RW2:Hid (rows2.map aI.l++[L]=rows.map aI.l++((gl.take (k+1)).filter (bG ps ns lo hi)).map (cI ps lo hi)):=by
        show _=_;rw[hls2.out,FS.out,if_pos OKT.out,HL.out,List.append_assoc]
       generalize dM (bP L)=sgl at*;clear hsg hls2 FS F0 OK OKT hfst AT HL h3';go_upto_region 13 with (at_builtin;refine bJ rfl _ _ rfl fY HO2.out rfl 1 _ rfl (by decide) rfl (by simp[Value.oneCell']) (by have:=hrn2.out;have:=HRN.out;omega) GW2.out ⟨Nat.le_refl _,GW2.out.size⟩ ?_;intro v9 w9 hO9 hg9 hgr9 hb9)
       have HO9:Hid (w9.ownsRow w.heap.size 58 1 v9 (rows2++[(⟨.slice A6 L.length c6,L⟩:aI)]).length ((rows2++[(⟨.slice A6 L.length c6,L⟩:aI)]).map aI.v)):=aO hO9 (by simp) (by simp);have IN9:=Lh (IN2.out.app NEW.out hgr9 hb9 (Nat.le_succ _));have HG9:=Lh hg9;clear hO9 hg9 hgr9 hb9 HO2 IN2 NEW;go_wp2;go_roundw
       case rel=>exact⟨k+1,_,by omega,by go_num,HO9.out,IN9.out,by rw[List.map_append];exact RW2.out,F1.out,by rw[List.length_append];have:=hrn2.out;show _+1<=_;omega,HG9.out⟩
       case measure=>simp[Go.RowKit.intOf];omega
      ·have t1:(dM (bP L)==sg)=false:=by rw[beq_eq_false_iff_ne];exact hsg
       have NOK:Hid (bG ps ns lo hi ix=false):=by
        show _=_;rw[OK.out,decide_eq_false hsg,Bool.and_false]
       generalize dM (bP L)=sgl at*;clear hsg HL NEW h3'
       by_cases hk0:k=0
       ·have GN:=Lh (F0.out hk0 NOK.out)
        have LS:=Lh (LS.out _ GN.out)
        have RW2:Hid (rows2.map aI.l=((G.take (kk+1)).map cE.l).flatMap (gL (cI ps lo hi) (bG ps ns lo hi))):=by
         show _=_;rw[LS.out,List.append_nil,hls2.out,hk0,hls.out,List.take_zero];simp
        have RN2:Hid (rows2.length<=1001*(kk+1)):=by show _<=_;have:=hrn2.out;have:=HRN.out;omega
        have tk:((k:Int)==0)=true:=by rw[beq_iff_eq];omega
        clear hls2 hls FS F0 F1 OK NOK GN LS hfst AT;go_wp2;go_roundw
        case rel=>exact⟨kk+1,rows2,by omega,by go_num,HO2.out,IN2.out,RW2.out,RN2.out,GW2.out⟩
        case measure=>simp[Go.RowKit.intOf];omega
       ·have tk:((k:Int)==0)=false:=by rw[beq_eq_false_iff_ne];omega
        have F1:=Lh (F1.out (.inr (by omega)))
        have RW2:Hid (rows2.map aI.l=rows.map aI.l++((gl.take (k+1)).filter (bG ps ns lo hi)).map (cI ps lo hi)):=by
         show _=_;rw[hls2.out,FS.out,if_neg (by rw[NOK.out];decide),List.append_nil]
        clear hls2 FS F0 OK NOK hfst AT;go_wp2;go_roundw
        case rel=>exact⟨k+1,rows2,by omega,by go_num,HO2.out,IN2.out,RW2.out,F1.out,Nat.le_succ_of_le hrn2.out,GW2.out⟩
        case measure=>simp[Go.RowKit.intOf];omega
     ·have NOK:Hid (bG ps ns lo hi ix=false):=by
       show _=_;rw[OK.out,AT.out,decide_eq_false h3];rfl
      have HO2:=Lh (aJ HO2.out hg6);have IN2:=Lh (IN2.out.grow hg6);have GW2:=Lh (GW2.out.tr hg6);clear hg6 h3 R5 SOK;go_upto_region 10 with fail
      refine aE (aB w6.drew) ((aB.refl _)) 8 [0,1,2,4,5,6,7,3] (by kernel_rfl) (by kernel_rfl) (by intro c a d v w h;cases d<;>exact h) ?_;have HO2:=Lh (aJ HO2.out (aB.refl w6).dr);have IN2:=Lh (IN2.out.grow (aB.refl w6).dr);have GW2:=Lh (GW2.out.tr (aB.refl w6).dr);generalize w6.drew=w7 at*;clear C4
      iterate 2 (apply aD;exact rfl;exact rfl;(intro W hW;(try clear hW);go_simp;with_reducible rfl);try simp only[Act.put,sA,sZ,sS])
      iterate 6 (apply bF;exact rfl;exact rfl;try simp only[Act.put,sA,sZ,sS])
      refine aK ?_;simp only[List.drop_succ_cons,List.drop_zero]
      by_cases hk0:k=0
      ·have GN:=Lh (F0.out hk0 NOK.out)
       have LS:=Lh (LS.out _ GN.out)
       have RW2:Hid (rows2.map aI.l=((G.take (kk+1)).map cE.l).flatMap (gL (cI ps lo hi) (bG ps ns lo hi))):=by
        show _=_;rw[LS.out,List.append_nil,hls2.out,hk0,hls.out,List.take_zero];simp
       have RN2:Hid (rows2.length<=1001*(kk+1)):=by show _<=_;have:=hrn2.out;have:=HRN.out;omega
       have tk:((k:Int)==0)=true:=by rw[beq_iff_eq];omega
       clear hls2 hls FS F0 F1 OK NOK GN LS hfst AT;go_wp2;go_roundw
       case rel=>exact⟨kk+1,rows2,by omega,by go_num,HO2.out,IN2.out,RW2.out,RN2.out,GW2.out⟩
       case measure=>simp[Go.RowKit.intOf];omega
      ·have tk:((k:Int)==0)=false:=by rw[beq_eq_false_iff_ne];omega
       have F1:=Lh (F1.out (.inr (by omega)))
       have RW2:Hid (rows2.map aI.l=rows.map aI.l++((gl.take (k+1)).filter (bG ps ns lo hi)).map (cI ps lo hi)):=by
        show _=_;rw[hls2.out,FS.out,if_neg (by rw[NOK.out];decide),List.append_nil]
       clear hls2 FS F0 OK NOK hfst AT;go_wp2;go_roundw
       case rel=>exact⟨k+1,rows2,by omega,by go_num,HO2.out,IN2.out,RW2.out,F1.out,Nat.le_succ_of_le hrn2.out,GW2.out⟩
       case measure=>simp[Go.RowKit.intOf];omega
    ·obtain rfl:k=gl.length:=by omega
     rw[List.take_length] at hls2;have GA:=Lh (wW (rl:=cI ps lo hi) (ok:=bG ps ns lo hi) (g:=gl) (fun h0=>hfst.out h0 h0));have LS:=Lh (LS.out _ GA.out)
     have RW2:Hid (rows2.map aI.l=((G.take (kk+1)).map cE.l).flatMap (gL (cI ps lo hi) (bG ps ns lo hi))):=by
      show _=_;rw[LS.out,hls2.out,hls.out]
     have RN2:Hid (rows2.length<=1001*(kk+1)):=by show _<=_;have:=hrn2.out;have:=HRN.out;omega
     have HO2:=Lh hown2;clear hls2 hls GA LS hfst hown2 x4;go_wp2;go_roundw
     case rel=>exact⟨kk+1,rows2,by omega,by go_num,HO2.out,hin2.out,RW2.out,RN2.out,hgw2.out⟩
     case measure=>simp[Go.RowKit.intOf];omega
  ·obtain rfl:kk=G.length:=by omega
   rw[List.take_length] at hls;go_wp2;exact HR.out _ rows _ hown hin.out hls.out hgw.out
end Go.Proofs.YtjalimkajcjapaaGreatDoor
