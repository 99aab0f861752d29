import Derived.Test.YtjalimkajcjapaaGreatDoorCore
import Derived.ProofKit
import Derived.OpenShut
import Derived.ShutString
import Derived.ChangeOld
import Derived.Deep.Slices
import Derived.Lib.SmallJoins
import Derived.SizedLaws
import Derived.Test.YtjalimkajcjapaaGreatDoorRowsA
import Derived.Test.YtjalimkajcjapaaGreatDoorOvCI
import Derived.Test.YtjalimkajcjapaaGreatDoorVlA
import Derived.Deep.Strs
import Derived.Test.YtjalimkajcjapaaGreatDoorTMS
import Derived.Test.YtjalimkajcjapaaGreatDoorRows
import Derived.LaidMore
import Derived.MakeChecks
import Derived.Lib.LaidIn
import Derived.Lib.LaidU8T
namespace Go.Proofs.YtjalimkajcjapaaGreatDoor
set_option maxRecDepth 100000
open Go.RowKit Go.ChangeShapes Go.WideShapes Go.Deep
section
variable {H : Type} {enc : TypeId × Value -> H} {P : Program} {w : World}
theorem xO {α:Type}(g:α->List Value)(p:α->Prop)(n:Nat)(cs:Nat->List Value)(h:∀ i,i<n->∃ a,cs i=g a/\p a):
  ∃ l:List α,l.length=n/\(List.range n).flatMap cs=l.flatMap g/\∀ a∈l,p a:=by
 induction n with
 |zero=>exact⟨[],rfl,rfl,by simp⟩
 |succ n ih=>
  obtain⟨l,h1,h2,h3⟩:=ih (fun i hi=>h i (by omega));obtain⟨a,h4,h5⟩:=h n (by omega);refine⟨l++[a],by simp[h1],?_,?_⟩
  ·rw[List.range_succ,List.flatMap_append,List.flatMap_append,h2]
   simp[h4]
  ·intro b hb
   rcases List.mem_append.1 hb with hb|hb
   ·exact h3 b hb
   ·obtain rfl:=List.mem_singleton.1 hb
    exact h5
theorem open_rd {t e:TypeId}{size fuel:Nat}{v:Value}{x:DataW H×List MemPlace}(ht:P.underlying t=some (.slice e))(hsz:P.cellsOf e=size)(h0:0<size)
  (h:DataW.trod enc P w 0 (fun _=>true) true fuel t [v]=some x):
  ∃ (n:Nat) (cs:Nat->List Value),Rd w (fun _=>True) size v n ((List.range n).flatMap cs)/\∀ i,i<n->∃ m y,DataW.trod enc P w 0 (fun _=>true) true m e (cs i)=some y:=by
 subst hsz
 rcases open_slice ht h with ⟨h1,_⟩|⟨a,len,cap,m,k,D,Pl,h1,_,hl,hm,hmm,_,hx⟩
 ·obtain rfl:v=.slice none 0 0:=by simpa using h1
  exact⟨0,fun _=>[],Rd.nil,fun i hi=>by omega⟩
 ·obtain rfl:v=.slice (some a) len cap:=by simpa using h1
  have hlm:len<=m:=by rw[hmm];split<;>omega
  obtain⟨cs,hcs⟩:=choose_lt (α:=List Value) (p:=fun i cs'=>w.cells? 0 (a.add (i*P.cellsOf e)) (P.cellsOf e)=some cs'/\DataW.trod enc P w 0 (fun _=>true) true k e cs'=some (D i,Pl i)) (n:=m) hx;refine⟨len,cs,⟨?_,some a,cap,rfl,hl,hm,fun hh=>(nomatch hh),fun hn=>?_⟩,fun i hi=>⟨k,_,(hcs i (by omega)).2⟩⟩
  ·have hlen:∀ n,n<=len->((List.range n).flatMap cs).length=n*P.cellsOf e:=by
    intro n
    induction n with
    |zero=>simp
    |succ n ih=>
     intro hn;rw[List.range_succ,List.flatMap_append,List.length_append,ih (by omega),Nat.add_mul];have:=(World.cells?_some (hcs n (by omega)).1).2.1;simp[this]
   exact hlen len (Nat.le_refl _)
  ·have hc0:=(hcs 0 (by omega)).1
   obtain⟨_,hl0,hc0⟩:=World.cells?_some hc0;have hcell0:=hc0 0 h0;rw[List.getElem?_eq_getElem (by omega)] at hcell0;have hsp:=World.cell?_spot hcell0;obtain⟨b,o,sp⟩:=a
   have hsp':sp=none:=by
    simp only[Addr.add,Nat.zero_mul] at hsp;simpa using hsp
   subst hsp';refine⟨b,o,rfl,trivial,?_⟩
   have key:∀ n,n<=len->∀ j u,((List.range n).flatMap cs)[j]? =some u->w.cell? ⟨b,o+j,none⟩=some u:=by
    intro n
    induction n with
    |zero=>intro _ j u hj;simp at hj
    |succ n ih=>
     intro hn j u hj;rw[List.range_succ,List.flatMap_append] at hj
     have hln:((List.range n).flatMap cs).length=n*P.cellsOf e:=by
      clear hj ih
      induction n with
      |zero=>simp
      |succ n ih2=>
       rw[List.range_succ,List.flatMap_append,List.length_append,ih2 (by omega),Nat.add_mul];have:=(World.cells?_some (hcs n (by omega)).1).2.1;simp[this]
     rcases Nat.lt_or_ge j (n*P.cellsOf e) with hlt|hge
     ·rw[List.getElem?_append_left (by omega)] at hj
      exact ih (by omega) j u hj
     ·rw[List.getElem?_append_right (by omega),hln] at hj
      have hj':(cs n)[j-n*P.cellsOf e]? =some u:=by simpa using hj
      obtain⟨_,hl1,hc1⟩:=World.cells?_some (hcs n (by omega)).1;have hlt:j-n*P.cellsOf e<P.cellsOf e:=by have:=(List.getElem?_eq_some_iff.1 hj').1;omega
      have hc2:=hc1 _ hlt;rw[Addr.add_lit,Addr.add_lit] at hc2;rw[show o+j=o+n*P.cellsOf e+(j-n*P.cellsOf e) by omega,hc2,hj']
   exact key len (Nat.le_refl _)
end
section
variable {H : Type} {enc : TypeId × Value -> H} {P : Program} {w : World}
def fS (P:Program)(t:TypeId)(d:DataW H):Prop:=∀ n∈d.weights P t,n<=reachBytes
theorem light_of {ts:List TypeId}{ds:List (DataW H)}(h:(DataW.weightsEach P ts ds).all (·<=reachBytes)=true){j:Nat}{t:TypeId}{d:DataW H}(ht:ts[j]? =some t)(hd:ds[j]? =some d):fS P t d:=by
 intro n hn;have:=List.all_eq_true.1 h n (DataW.weights_mem_each ht hd n hn);simpa using this
theorem kH {e:TypeId}{d:DataW H}{n:Nat}(hn:n∈d.weights P e):∀ {l:List (DataW H)},d∈l->n∈DataW.weightsAll P e l
 |x::l,h=>by
  rw[DataW.weightsAll,List.mem_append];rcases List.mem_cons.1 h with rfl|h
  ·exact .inl hn
  ·exact .inr (kH hn h)
theorem dV {t:TypeId}{fs:Array Field}{parts:List (DataW H)}(ht:P.underlying t=some (.struct fs))(h:fS P t (.agg parts)){j:Nat}{f:Field}{d:DataW H}(hf:fs.toList[j]? =some f)(hd:parts[j]? =some d):fS P f.type d:=by
 intro n hn;refine h n ?_;rw[DataW.weights,ht];exact DataW.weights_mem_each (by simp[hf]) hd n hn
theorem open_rdS {t e:TypeId}{size fuel:Nat}{v:Value}{x:DataW H×List MemPlace}(ht:P.underlying t=some (.slice e))(hsz:P.cellsOf e=size)(h0:0<size)
  (h:DataW.trod enc P w 0 (fun _=>true) true fuel t [v]=some x) (hL:fS P t x.1):
  ∃ (n:Nat) (cs:Nat->List Value),Rd w (fun _=>True) size v n ((List.range n).flatMap cs)/\n*P.bytesOf e<=reachBytes/\∀ i,i<n->∃ m y,DataW.trod enc P w 0 (fun _=>true) true m e (cs i)=some y/\fS P e y.1:=by
 subst hsz
 rcases open_slice ht h with ⟨h1,_⟩|⟨a,len,cap,m,k,D,Pl,h1,_,hl,hm,hmm,hxx,hx⟩
 ·obtain rfl:v=.slice none 0 0:=by simpa using h1
  exact⟨0,fun _=>[],Rd.nil,by simp,fun i hi=>by omega⟩
 ·obtain rfl:v=.slice (some a) len cap:=by simpa using h1
  have hlm:len<=m:=by rw[hmm];split<;>omega
  obtain⟨cs,hcs⟩:=choose_lt (α:=List Value) (p:=fun i cs'=>w.cells? 0 (a.add (i*P.cellsOf e)) (P.cellsOf e)=some cs'/\DataW.trod enc P w 0 (fun _=>true) true k e cs'=some (D i,Pl i)) (n:=m) hx;subst hxx
  have hbytes:len*P.bytesOf e<=reachBytes:=by
   have:=hL ((((List.range len).map D).length+((List.range (m-len)).map fun j=>D (len+j)).length)*P.bytesOf e) (by simp[DataW.weights,ht]);refine Nat.le_trans (Nat.mul_le_mul_right _ ?_) this;simp
  have hlight:∀ i,i<len->fS P e (D i):=by
   intro i hi n hn;refine hL n ?_;rw[DataW.weights,ht];exact List.mem_cons_of_mem _ (List.mem_append_left _ (kH hn (List.mem_map_of_mem (List.mem_range.2 hi))))
  obtain⟨n',cs',hrd,_⟩:=open_rd ht rfl h0 h
  have hn':n'=len:=by
   obtain⟨_,A,c,hv,_⟩:=hrd;injection hv with _ hv _
   exact hv.symm
  subst hn';refine⟨n',cs,?_,hbytes,fun i hi=>⟨k,_,(hcs i (by omega)).2,hlight i hi⟩⟩
  ·refine⟨?_,some a,cap,rfl,hl,hm,fun hh=>(nomatch hh),fun hn=>?_⟩
   ·have hlen:∀ n,n<=n'->((List.range n).flatMap cs).length=n*P.cellsOf e:=by
     intro n
     induction n with
     |zero=>simp
     |succ n ih=>
      intro hn;rw[List.range_succ,List.flatMap_append,List.length_append,ih (by omega),Nat.add_mul];have:=(World.cells?_some (hcs n (by omega)).1).2.1;simp[this]
    exact hlen n' (Nat.le_refl _)
   ·have hc0:=(hcs 0 (by omega)).1
    obtain⟨_,hl0,hc0⟩:=World.cells?_some hc0;have hcell0:=hc0 0 h0;rw[List.getElem?_eq_getElem (by omega)] at hcell0;have hsp:=World.cell?_spot hcell0;obtain⟨b,o,sp⟩:=a
    have hsp':sp=none:=by
     simp only[Addr.add,Nat.zero_mul] at hsp;simpa using hsp
    subst hsp';refine⟨b,o,rfl,trivial,?_⟩
    have key:∀ n,n<=n'->∀ j u,((List.range n).flatMap cs)[j]? =some u->w.cell? ⟨b,o+j,none⟩=some u:=by
     intro n
     induction n with
     |zero=>intro _ j u hj;simp at hj
     |succ n ih=>
      intro hn j u hj;rw[List.range_succ,List.flatMap_append] at hj
      have hln:((List.range n).flatMap cs).length=n*P.cellsOf e:=by
       clear hj ih
       induction n with
       |zero=>simp
       |succ n ih2=>
        rw[List.range_succ,List.flatMap_append,List.length_append,ih2 (by omega),Nat.add_mul];have:=(World.cells?_some (hcs n (by omega)).1).2.1;simp[this]
      rcases Nat.lt_or_ge j (n*P.cellsOf e) with hlt|hge
      ·rw[List.getElem?_append_left (by omega)] at hj
       exact ih (by omega) j u hj
      ·rw[List.getElem?_append_right (by omega),hln] at hj
       have hj':(cs n)[j-n*P.cellsOf e]? =some u:=by simpa using hj
       obtain⟨_,hl1,hc1⟩:=World.cells?_some (hcs n (by omega)).1;have hlt:j-n*P.cellsOf e<P.cellsOf e:=by have:=(List.getElem?_eq_some_iff.1 hj').1;omega
       have hc2:=hc1 _ hlt;rw[Addr.add_lit,Addr.add_lit] at hc2;rw[show o+j=o+n*P.cellsOf e+(j-n*P.cellsOf e) by omega,hc2,hj']
    exact key n' (Nat.le_refl _)
theorem jO {t e:TypeId}{size fuel:Nat}{v:Value}{x:DataW H×List MemPlace}{α:Type}(g:α->List Value)(p:α->Prop)(ht:P.underlying t=some (.slice e))(hsz:P.cellsOf e=size)(h0:0<size)
  (hel:∀ m cs y,DataW.trod enc P w 0 (fun _=>true) true m e cs=some y->fS P e y.1->∃ a,cs=g a/\p a)
  (h:DataW.trod enc P w 0 (fun _=>true) true fuel t [v]=some x) (hL:fS P t x.1):
  ∃ l:List α,Rd w (fun _=>True) size v l.length (l.flatMap g)/\l.length*P.bytesOf e<=reachBytes/\∀ a∈l,p a:=by
 obtain⟨n,cs,h1,hb,h2⟩:=open_rdS ht hsz h0 h hL;obtain⟨l,h3,h4,h5⟩:=xO g p n cs (fun i hi=>by obtain⟨m,y,hy,hy2⟩:=h2 i hi;exact hel m _ y hy hy2);refine⟨l,?_,by rw[h3];exact hb,h5⟩;rw[h3,<-h4];exact h1
end
end Go.Proofs.YtjalimkajcjapaaGreatDoor
namespace Go.Proofs.YtjalimkajcjapaaGreatDoor
set_option maxRecDepth 100000
open Go.RowKit Go.ChangeShapes Go.WideShapes Go.Deep
section
variable {H : Type} {enc : TypeId × Value -> H} {w : World}
theorem cells_int:Tryz.prog.cellsOf 3=1:=by kernel_rfl
theorem xP:Tryz.prog.cellsOf 51=2:=by kernel_rfl
theorem list2:∀ {cs:List Value},cs.length=2->∃ a b,cs=[a,b]
 |[a,b],_=>⟨a,b,rfl⟩
theorem flat_one {α:Type}(f:α->Value)(l:List α):(l.flatMap fun a=>[f a])=l.map f:=by
 induction l with
 |nil=>rfl
 |cons a l ih=>rw[List.flatMap_cons,ih];rfl
theorem yQ (m:Nat)(cs:List Value)(y:DataW H×List MemPlace)(h:DataW.trod enc Tryz.prog w 0 (fun _=>true) true m 51 cs=some y):∃ p:Pt,cs=p.cells/\p.ok:=by
 obtain⟨y0,y1,n,_,hl,h0,h1⟩:=trod_struct2 Tryz.underlying51 h;obtain⟨a,ha,_,wa⟩:=DataW.trod_int Tryz.underlying3 h0;obtain⟨b,hb,_,wb⟩:=DataW.trod_int Tryz.underlying3 h1;rw[xP] at hl;dsimp only at ha hb;rw[cells_int] at ha hb;obtain⟨c0,c1,rfl⟩:=list2 hl;simp only[List.drop_zero,List.take_succ_cons,List.take_zero,List.drop_succ_cons,List.cons.injEq,and_true] at ha hb;subst ha hb;exact⟨⟨a,b⟩,rfl,bounds_i64 wa,bounds_i64 wb⟩
end
end Go.Proofs.YtjalimkajcjapaaGreatDoor
namespace Go.Proofs.YtjalimkajcjapaaGreatDoor
set_option maxRecDepth 100000
open Go.RowKit Go.ChangeShapes Go.WideShapes Go.Deep Go.Joins
section
variable {H : Type} {enc : TypeId × Value -> H} {P : Program} {w : World} {base : Nat} {spare : Nat -> Bool} {held : Bool}
theorem tG {t:TypeId}{f0 f1 f2 f3 f4:Field}{fuel:Nat}{cs:List Value}{x:DataW H×List MemPlace}(ht:P.underlying t=some (.struct #[f0,f1,f2,f3,f4]))(h:DataW.trod enc P w base spare held fuel t cs=some x):
  ∃ y0 y1 y2 y3 y4 n,x=(.agg [y0.1,y1.1,y2.1,y3.1,y4.1],y0.2++(y1.2++(y2.2++(y3.2++y4.2))))/\cs.length=P.cellsOf t/\DataW.trod enc P w base spare held n f0.type ((cs.drop f0.offset).take (P.cellsOf f0.type))=some y0/\
   DataW.trod enc P w base spare held n f1.type ((cs.drop f1.offset).take (P.cellsOf f1.type))=some y1/\DataW.trod enc P w base spare held n f2.type ((cs.drop f2.offset).take (P.cellsOf f2.type))=some y2/\
   DataW.trod enc P w base spare held n f3.type ((cs.drop f3.offset).take (P.cellsOf f3.type))=some y3/\DataW.trod enc P w base spare held n f4.type ((cs.drop f4.offset).take (P.cellsOf f4.type))=some y4:=by
 obtain⟨xs,n,_,rfl,hl,hlen,hf⟩:=DataW.trod_struct ht h
 match xs,hlen with
 |[y0,y1,y2,y3,y4],_=>exact⟨y0,y1,y2,y3,y4,n,by simp,hl,by simpa using hf 0 f0 rfl,by simpa using hf 1 f1 rfl,by simpa using hf 2 f2 rfl,by simpa using hf 3 f3 rfl,by simpa using hf 4 f4 rfl⟩
end
section
variable {H : Type} {enc : TypeId × Value -> H} {w : World}
theorem q_list3:∀ {cs:List Value},cs.length=3->∃ a b c,cs=[a,b,c]
 |[a,b,c],_=>⟨a,b,c,rfl⟩
theorem q_list4:∀ {cs:List Value},cs.length=4->∃ a b c d,cs=[a,b,c,d]
 |[a,b,c,d],_=>⟨a,b,c,d,rfl⟩
theorem q_list5:∀ {cs:List Value},cs.length=5->∃ a b c d e,cs=[a,b,c,d,e]
 |[a,b,c,d,e],_=>⟨a,b,c,d,e,rfl⟩
theorem q_int:Tryz.prog.cellsOf 3=1:=by kernel_rfl
theorem q_bool:Tryz.prog.cellsOf 4=1:=by kernel_rfl
theorem q_str:Tryz.prog.cellsOf 9=1:=by kernel_rfl
theorem q_u64:Tryz.prog.cellsOf 40=1:=by kernel_rfl
theorem q_val:Tryz.prog.cellsOf 47=3:=by kernel_rfl
theorem q_atr:Tryz.prog.cellsOf 49=4:=by kernel_rfl
theorem q_zoom:Tryz.prog.cellsOf 26=4:=by kernel_rfl
theorem q_ft:Tryz.prog.cellsOf 44=5:=by kernel_rfl
theorem q_rows:Tryz.prog.cellsOf 41=1:=by kernel_rfl
theorem q_atrs:Tryz.prog.cellsOf 42=1:=by kernel_rfl
theorem open_zoomv {base:Nat}{v:Value}{d:DataW H}{p:List MemPlace}(hv:Value.okWide Tryz.prog w .any base 26 v)(h:DataW.Trod enc Tryz.prog w 0 (fun _=>true) true 26 v d p):
  ∃ z:Zm,v=.agg z.cells.toArray/\(I64 z.up/\I64 z.x/\I64 z.y/\I64 z.b):=by
 obtain⟨cs,rfl,_⟩:=okWide_struct Tryz.underlying26 hv;obtain⟨fuel,hf⟩:=h;have hf:DataW.trod enc Tryz.prog w 0 (fun _=>true) true fuel 26 cs.toList=some (d,p):=hf;obtain⟨cs⟩:=cs;obtain⟨y0,y1,y2,y3,n,-,hl,h0,h1,h2,h3⟩:=trod_struct4 Tryz.underlying26 hf;obtain⟨a,ha,_,wa⟩:=DataW.trod_int Tryz.underlying3 h0;obtain⟨b,hb,_,wb⟩:=DataW.trod_int Tryz.underlying3 h1;obtain⟨c,hc,_,wc⟩:=DataW.trod_int Tryz.underlying3 h2;obtain⟨e,he,_,we⟩:=DataW.trod_int Tryz.underlying3 h3;rw[q_zoom] at hl;dsimp only at ha hb hc he
 rw[q_int] at ha hb hc he;obtain⟨c0,c1,c2,c3,rfl⟩:=q_list4 hl;simp only[List.drop_zero,List.take_succ_cons,List.take_zero,List.drop_succ_cons,List.cons.injEq,and_true] at ha hb hc he;subst ha hb hc he;exact⟨⟨a,b,c,e⟩,rfl,bounds_i64 wa,bounds_i64 wb,bounds_i64 wc,bounds_i64 we⟩
theorem open_ptsS {fuel:Nat}{v:Value}{x:DataW H×List MemPlace}(h:DataW.trod enc Tryz.prog w 0 (fun _=>true) true fuel 58 [v]=some x)(hL:fS Tryz.prog 58 x.1):
  ∃ l:List Pt,Rd w (fun _=>True) 2 v l.length (Pts l)/\l.length*16<=reachBytes/\∀ a∈l,a.ok:=by
 obtain⟨l,h1,h2,h3⟩:=jO Pt.cells Pt.ok Tryz.underlying58 xP (by decide) (fun m cs y hy _=>yQ m cs y hy) h hL;rw[show Tryz.prog.bytesOf 51=16 by kernel_rfl] at h2;exact⟨l,h1,h2,h3⟩
theorem rK (m:Nat)(cs:List Value)(y:DataW H×List MemPlace)(h:DataW.trod enc Tryz.prog w 0 (fun _=>true) true m 58 cs=some y)(hL:fS Tryz.prog 58 y.1):
  ∃ r:aI,cs=[r.v]/\(r.rd w (fun _=>True)/\(∀ s∈r.l,s.ok)/\r.l.length<=140737488355328):=by
 have hv:∃ v,cs=[v]:=by
  rcases open_slice Tryz.underlying58 h with ⟨h1,_⟩|⟨a,len,cap,m,k,D,Pl,h1,_⟩
  ·exact⟨_,h1⟩
  ·exact⟨_,h1⟩
 obtain⟨v,rfl⟩:=hv;obtain⟨l,h1,h2,h3⟩:=open_ptsS h hL;refine⟨⟨v,l⟩,rfl,h1,h3,?_⟩;unfold reachBytes at h2;show l.length<=_;omega
theorem tW {fuel:Nat}{v:Value}{x:DataW H×List MemPlace}(h:DataW.trod enc Tryz.prog w 0 (fun _=>true) true fuel 41 [v]=some x)(hL:fS Tryz.prog 41 x.1):
  ∃ l:List aI,Rd w (fun _=>True) 1 v l.length (l.map aI.v)/\∀ r∈l,r.rd w (fun _=>True)/\(∀ s∈r.l,s.ok)/\r.l.length<=140737488355328:=by
 obtain⟨l,h1,-,h2⟩:=jO (size:=1) (fun r:aI=>[r.v]) (fun r=>r.rd w (fun _=>True)/\(∀ s∈r.l,s.ok)/\r.l.length<=140737488355328) Tryz.underlying41 (by kernel_rfl) (by decide) rK h hL;rw[flat_one] at h1;exact⟨l,h1,h2⟩
end
end Go.Proofs.YtjalimkajcjapaaGreatDoor
namespace Go.Proofs.YtjalimkajcjapaaGreatDoor
set_option maxRecDepth 100000
open Go.RowKit Go.ChangeShapes Go.WideShapes Go.Deep Go.Joins
section
variable {H : Type} {enc : TypeId × Value -> H} {w : World}
theorem q_ly:Tryz.prog.cellsOf 24=3:=by kernel_rfl
theorem q_fts:Tryz.prog.cellsOf 22=1:=by kernel_rfl
def RB:Nat:=140737488355328
theorem nV {t:TypeId}{b:ByteArray}(h:fS Tryz.prog t (.lit (.string b.data.toList):DataW H)):b.size<=RB:=by
 have:=h b.data.toList.length (by simp[DataW.weights]);unfold reachBytes at this;have e:b.data.toList.length=b.size:=by simp
 unfold RB;omega
theorem tV (m:Nat)(cs:List Value)(y:DataW H×List MemPlace)(h:DataW.trod enc Tryz.prog w 0 (fun _=>true) true m 47 cs=some y)(hL:fS Tryz.prog 47 y.1):
  ∃ x:Val,cs=[.int .i64 x.k,.string x.t,.int .u64 x.b]/\I64 x.k/\U64 x.b/\x.t.size<=maxLen/\x.t.size<=RB:=by
 obtain⟨y0,y1,y2,n,rfl,hl,h0,h1,h2⟩:=trod_struct3 Tryz.underlying47 h;have hL1:=dV (j:=1) Tryz.underlying47 hL rfl rfl;obtain⟨a,ha,_,wa⟩:=DataW.trod_int Tryz.underlying3 h0;obtain⟨s,hs,es,ws⟩:=DataW.trod_string Tryz.underlying9 h1;obtain⟨c,hc,_,wc⟩:=DataW.trod_int Tryz.underlying40 h2;rw[es] at hL1;have bs:=nV hL1;rw[q_val] at hl;dsimp only at ha hs hc;rw[q_int] at ha;rw[q_str] at hs;rw[q_u64] at hc;obtain⟨c0,c1,c2,rfl⟩:=q_list3 hl
 simp only[List.drop_zero,List.take_succ_cons,List.take_zero,List.drop_succ_cons,List.cons.injEq,and_true] at ha hs hc;subst ha hs hc;exact⟨⟨a,s,c⟩,rfl,bounds_i64 wa,bounds_u64 wc,ws,bs⟩
theorem tX (m:Nat)(cs:List Value)(y:DataW H×List MemPlace)(h:DataW.trod enc Tryz.prog w 0 (fun _=>true) true m 49 cs=some y)(hL:fS Tryz.prog 49 y.1):∃ x:Atr,cs=x.cells/\x.ok/\x.key.size<=RB/\x.val.t.size<=RB:=by
 obtain⟨y0,y1,n,rfl,hl,h0,h1⟩:=trod_struct2 Tryz.underlying49 h;have hL0:=dV (j:=0) Tryz.underlying49 hL rfl rfl;have hL1:=dV (j:=1) Tryz.underlying49 hL rfl rfl;obtain⟨s,hs,es,ws⟩:=DataW.trod_string Tryz.underlying9 h0;rw[es] at hL0;have bs:=nV hL0;dsimp only at hs h1;obtain⟨x,hx,x1,x2,x3,x4⟩:=tV _ _ _ h1 hL1;rw[q_atr] at hl;rw[q_str] at hs;rw[q_val] at hx;obtain⟨c0,c1,c2,c3,rfl⟩:=q_list4 hl
 simp only[List.drop_zero,List.take_succ_cons,List.take_zero,List.drop_succ_cons,List.cons.injEq,and_true] at hs hx;obtain⟨e1,e2,e3⟩:=hx;subst hs e1 e2 e3;exact⟨⟨s,x⟩,rfl,⟨ws,x1,x2,x3⟩,bs,x4⟩
theorem yS {fuel:Nat}{v:Value}{x:DataW H×List MemPlace}(h:DataW.trod enc Tryz.prog w 0 (fun _=>true) true fuel 42 [v]=some x)(hL:fS Tryz.prog 42 x.1):
  ∃ l:List Atr,Rd w (fun _=>True) 4 v l.length (rQ l)/\∀ a∈l,a.ok/\a.key.size<=RB/\a.val.t.size<=RB:=by
 obtain⟨l,h1,-,h3⟩:=jO (size:=4) Atr.cells (fun a=>a.ok/\a.key.size<=RB/\a.val.t.size<=RB) Tryz.underlying42 q_atr (by decide) (fun m cs y hy hL=>tX m cs y hy hL) h hL;exact⟨l,h1,h3⟩
def FtR.rch (f:FtR):Prop:=∀ a∈f.B,a.key.size<=RB/\a.val.t.size<=RB
theorem wH (m:Nat)(cs:List Value)(y:DataW H×List MemPlace)(h:DataW.trod enc Tryz.prog w 0 (fun _=>true) true m 44 cs=some y)(hL:fS Tryz.prog 44 y.1):
  ∃ x:FtR,cs=x.cells/\x.rd w (fun _=>True)/\x.ok/\x.rch:=by
 obtain⟨y0,y1,y2,y3,y4,n,rfl,hl,h0,h1,h2,h3,h4⟩:=tG Tryz.underlying44 h;have hL3:=dV (j:=3) Tryz.underlying44 hL rfl rfl;have hL4:=dV (j:=4) Tryz.underlying44 hL rfl rfl;obtain⟨a,ha,_⟩:=DataW.trod_bool Tryz.underlying4 h0;obtain⟨b,hb,_,wb⟩:=DataW.trod_int Tryz.underlying40 h1;obtain⟨c,hc,_,wc⟩:=DataW.trod_int Tryz.underlying3 h2;rw[q_ft] at hl;dsimp only at ha hb hc h3 h4;rw[q_bool] at ha;rw[q_u64] at hb;rw[q_int] at hc;rw[q_rows] at h3;rw[q_atrs] at h4;have b1:=bounds_u64 wb;have b2:=bounds_i64 wc
 obtain⟨b,rfl⟩:=Int.eq_ofNat_of_zero_le b1.1;obtain⟨c0,c1,c2,c3,c4,rfl⟩:=q_list5 hl;simp only[List.drop_zero,List.take_succ_cons,List.take_zero,List.drop_succ_cons,List.cons.injEq,and_true] at ha hb hc h3 h4;subst ha hb hc;obtain⟨A,a1,a2⟩:=tW h3 hL3;obtain⟨B,z1,z3⟩:=yS h4 hL4;exact⟨⟨⟨a,b,c,c3,c4⟩,A,B⟩,rfl,⟨a1,fun r hr=>(a2 r hr).1,z1⟩,⟨by show b<_;omega,b2,fun r hr=>(a2 r hr).2.2,fun x hx=>(z3 x hx).1⟩,fun x hx=>(z3 x hx).2⟩
theorem open_ftsS {fuel:Nat}{v:Value}{x:DataW H×List MemPlace}(h:DataW.trod enc Tryz.prog w 0 (fun _=>true) true fuel 22 [v]=some x)(hL:fS Tryz.prog 22 x.1):
  ∃ l:List FtR,Rd w (fun _=>True) 5 v l.length (Fts l)/\∀ f∈l,f.rd w (fun _=>True)/\f.ok/\f.rch:=by
 obtain⟨l,h1,-,h3⟩:=jO (size:=5) FtR.cells (fun f=>f.rd w (fun _=>True)/\f.ok/\f.rch) Tryz.underlying22 q_ft (by decide) (fun m cs y hy hL=>wH m cs y hy hL) h hL;exact⟨l,h1,h3⟩
theorem yR (m:Nat)(cs:List Value)(y:DataW H×List MemPlace)(h:DataW.trod enc Tryz.prog w 0 (fun _=>true) true m 24 cs=some y)(hL:fS Tryz.prog 24 y.1):
  ∃ x:LyR,cs=x.cells/\x.rd w (fun _=>True)/\x.ok/\x.nm.size<=RB/\∀ f∈x.F,f.rch:=by
 obtain⟨y0,y1,y2,n,rfl,hl,h0,h1,h2⟩:=trod_struct3 Tryz.underlying24 h;have hL0:=dV (j:=0) Tryz.underlying24 hL rfl rfl;have hL2:=dV (j:=2) Tryz.underlying24 hL rfl rfl;obtain⟨s,hs,es,ws⟩:=DataW.trod_string Tryz.underlying9 h0;obtain⟨a,ha,_,wa⟩:=DataW.trod_int Tryz.underlying3 h1;rw[es] at hL0;have bs:=nV hL0;rw[q_ly] at hl;dsimp only at hs ha h2;rw[q_str] at hs;rw[q_int] at ha;rw[q_fts] at h2;obtain⟨c0,c1,c2,rfl⟩:=q_list3 hl
 simp only[List.drop_zero,List.take_succ_cons,List.take_zero,List.drop_succ_cons,List.cons.injEq,and_true] at hs ha h2;subst hs ha;obtain⟨F,f1,f2⟩:=open_ftsS h2 hL2;exact⟨⟨s,a,c2,F⟩,rfl,⟨f1,fun f hf=>(f2 f hf).1⟩,⟨ws,bounds_i64 wa,fun f hf=>(f2 f hf).2.1⟩,bs,fun f hf=>(f2 f hf).2.2⟩
theorem open_lyv {base:Nat}{v:Value}{d:DataW H}{p:List MemPlace}(hv:Value.okWide Tryz.prog w .any base 24 v)(h:DataW.Trod enc Tryz.prog w 0 (fun _=>true) true 24 v d p)(hL:fS Tryz.prog 24 d):
  ∃ x:LyR,v=.agg x.cells.toArray/\x.rd w (fun _=>True)/\x.ok/\Rch [x]:=by
 obtain⟨cs,rfl,_⟩:=okWide_struct Tryz.underlying24 hv;obtain⟨fuel,hf⟩:=h;have hf:DataW.trod enc Tryz.prog w 0 (fun _=>true) true fuel 24 cs.toList=some (d,p):=hf;obtain⟨x,hx,h1,h2,h3,h4⟩:=yR fuel _ _ hf hL;refine⟨x,?_,h1,h2,fun y hy=>?_⟩
 ·rw[<-hx]
 ·rw[List.mem_singleton.1 hy];exact⟨h3,h4⟩
end
end Go.Proofs.YtjalimkajcjapaaGreatDoor
namespace Go.Proofs.YtjalimkajcjapaaGreatDoor
set_option maxRecDepth 100000
open Go.RowKit Go.ChangeShapes Go.WideShapes Go.Deep
/- the tables -/
def laidL:List (String×DataW Unit):=[("unicode/utf8.acceptRanges",Rows.laid_unicode_utf8_acceptRanges),("unicode/utf8.first",Rows.laid_unicode_utf8_first)]
theorem wS:(Rows.laid_unicode_utf8_acceptRanges:DataW Unit)=Lib.acceptData:=by kernel_rfl
theorem yY:Rows.laid_unicode_utf8_first=Lib.firstData:=by kernel_rfl
theorem tabs_of_laid {W:World}(h:laidMetH Tryz.prog laidL W):kD W:=by
 rw[MakeChecks.laidMetH_plain _ _ _ (by kernel_rfl)] at h;have h1:=Lib.laidMet.reads h (.head _);have h2:=Lib.laidMet.reads h (.tail _ (.head _));rw[wS] at h1;rw[yY] at h2;exact Go.Proofs.utf8Tabs_of_readsT (Go.Proofs.U8Types.of196 Tryz.laysValid) ⟨by kernel_rfl,by kernel_rfl,by kernel_rfl,by kernel_rfl,by kernel_rfl,by kernel_rfl,by kernel_rfl⟩ h2 h1
noncomputable def laidWorld (os:Os):World:=
 let w0:=World.holding Tryz.prog os ⟨#[],#[],[]⟩
 let put (h:Array Obj) (g:Nat) (cs:Array Value):Array Obj:=h.modify g fun
  |.cells _ t frozen=>.cells cs t frozen
  |o=>o
 let h1:=put w0.heap 0 (Lib.firstTab.map fun z=>Value.int .u8 z).toArray
 let h2:=put h1 1 ((List.range 16).flatMap fun i=>[Value.int .u8 (Lib.accLo i),Value.int .u8 (Lib.accHi i)]).toArray
 {w0 with heap:=h2}
theorem laid_met (os:Os)(args:Array Value):laidMetH Tryz.prog laidL ((laidWorld os).forCall (fun _ _=>0) ⟨#[],args,[]⟩).memory:=by
 rw[MakeChecks.laidMetH_plain _ _ _ (by kernel_rfl)];exact(LaidIn.of_run (l:=laidL) [0,1] 8 (by kernel_rfl) (by kernel_rfl) (by kernel_rfl) (by kernel_rfl)).met
end Go.Proofs.YtjalimkajcjapaaGreatDoor
