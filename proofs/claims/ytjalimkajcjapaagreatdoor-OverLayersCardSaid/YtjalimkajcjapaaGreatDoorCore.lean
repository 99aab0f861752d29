import Derived.WalkKit
import Derived.WalkLawsBesides
import Derived.WalkSpells
import Derived.WalkSmall
import Derived.Outline
import Derived.Lib.Hide
import Derived.Deep.QuietTactic
import Derived.BigQuiet
import Derived.Deep.LoopGhost
import Derived.Maps.AppendAt
import Derived.OwnWalk
import Derived.Laws.IdiomStrings
import Derived.Laws.BytesArg
import Derived.Handy
import Derived.Deep.RegionHeld3
import Derived.Deep.DeepFit
import Derived.OneCell
import Derived.OrdersHeld
import Derived.StillTail
namespace Go.Proofs.YtjalimkajcjapaaGreatDoor
theorem sA {α:Type _}(l:List α)(i:Nat)(a:α):l.toArray.setIfInBounds i a=(l.set i a).toArray:=List.setIfInBounds_toArray ..
theorem sZ {α:Type _}(x a:α)(l:List α):(x::l).set 0 a=a::l:=List.set_cons_zero ..
theorem sS {α:Type _}(x a:α)(l:List α)(i:Nat):(x::l).set (i+1) a=x::l.set i a:=List.set_cons_succ ..
theorem Lh {p:Prop}(h:p):Go.RowKit.Hid p:=Go.Lib.hid h
end Go.Proofs.YtjalimkajcjapaaGreatDoor
namespace Go.Proofs.YtjalimkajcjapaaGreatDoor
set_option maxRecDepth 100000
open Go.RowKit
abbrev aB (w w':World):Prop:=Below w.heap.size w w'
theorem aB.refl (w:World):aB w w:=Below.refl _ _
theorem aB.tr {a b c:World}(h:aB a b)(k:aB b c):aB a c:=Below.trans h (Below.mono k h.size)
theorem aB.al {a b:World}(h:aB a b)(o:Obj):aB a (b.alloc o):=Below.alloc h h.size o
theorem aB.dn {a b:World}(h:aB a b)(n:Nat):aB a (b.drewN n):=below_drewN h n
theorem aB.set {a b:World}(h:aB a b){p:Addr}(hp:a.heap.size<=p.block)(u:Value):aB a (b.setCell p u):=Below.setCell h hp u
theorem aB.dr {w w':World}(h:aB w w'):aB w w'.drew:=Below.drew h
theorem sO {w w':World}(h:aB w.drew w'):aB w w':=⟨h.os,h.tape,h.output,h.size,h.block⟩
theorem drewN_ex (w:World)(n m:Nat):∃ k,(w.drewN n).drewN m=w.drewN k:=⟨n+m,World.drewN_drewN _ _ _⟩
def Rd (w:World)(S:Nat->Prop)(size:Nat)(v:Value)(n:Nat)(xs:List Value):Prop:=
 xs.length=n*size/\∃ A c,v=.slice A n c/\n<=c/\c<=maxLen/\(A=none->c=0)/\
  (0<n->∃ b o,A=some ⟨b,o,none⟩/\S b/\∀ j u,xs[j]? =some u->w.cell? ⟨b,o+j,none⟩=some u)
section
variable {w w' : World} {S T : Nat -> Prop} {size n : Nat} {v : Value} {xs : List Value}
theorem Rd.nil:Rd w S size (.slice none 0 0) 0 []:=
 ⟨by simp,none,0,rfl,Nat.le_refl _,Nat.zero_le _,fun _=>rfl,fun h=>absurd h (by omega)⟩
theorem Rd.keep (h:Rd w S size v n xs)(hk:∀ b,S b->w'.heap[b]? =w.heap[b]?):Rd w' S size v n xs:=by
 obtain⟨hl,A,c,hv,h1,h2,h3,h4⟩:=h;refine⟨hl,A,c,hv,h1,h2,h3,fun hn=>?_⟩;obtain⟨b,o,hA,hS,hc⟩:=h4 hn;exact⟨b,o,hA,hS,fun j u hu=>(World.cell?_of_block (w:=w) (a:=⟨b,o+j,none⟩) (hk b hS)).trans (hc j u hu)⟩
theorem Rd.into (h:Rd w S size v n xs)(hk:∀ b,S b->T b):Rd w T size v n xs:=by
 obtain⟨hl,A,c,hv,h1,h2,h3,h4⟩:=h;refine⟨hl,A,c,hv,h1,h2,h3,fun hn=>?_⟩;obtain⟨b,o,hA,hS,hc⟩:=h4 hn;exact⟨b,o,hA,hk b hS,hc⟩
theorem Rd.grow {B:Nat}(h:Rd w (·<B) size v n xs)(hg:Below B w w'):Rd w' (·<B) size v n xs:=h.keep fun b hb=>hg.block b hb
theorem Rd.lt (h:Rd w S size v n xs)(h0:0<size):Rd w (·<w.heap.size) size v n xs:=by
 obtain⟨hl,A,c,hv,h1,h2,h3,h4⟩:=h;refine⟨hl,A,c,hv,h1,h2,h3,fun hn=>?_⟩;obtain⟨b,o,hA,_,hc⟩:=h4 hn;have hx:0<xs.length:=by rw[hl];exact Nat.mul_pos hn h0
 exact⟨b,o,hA,World.block_lt_of_cell? w _ (hc 0 xs[0] (List.getElem?_eq_getElem hx)),hc⟩
theorem Rd.al (h:Rd w S size v n xs)(h0:0<size)(o:Obj):Rd (w.alloc o) (·<w.heap.size) size v n xs:=
 (h.lt h0).keep fun b hb=>Below.heap_alloc w o b hb
theorem Rd.gr (h:Rd w S size v n xs)(h0:0<size)(hg:aB w w'):Rd w' (·<w.heap.size) size v n xs:=
 (h.lt h0).keep fun b hb=>hg.block b hb
theorem Rd.own {base:Nat}{e:TypeId}(h:w.ownsRow base e size v n xs):Rd w (fun b=>some b=v.ownBlock) size v n xs:=by
 refine⟨h.1,?_⟩
 rcases h.2 with ⟨rfl,rfl⟩|⟨g,cap,cur,rfl,hb,hg,hnc,hcm,hcs,htake⟩
 ·exact⟨none,0,rfl,Nat.le_refl _,Nat.zero_le _,fun _=>rfl,fun h=>absurd h (by omega)⟩
 ·refine⟨_,cap,rfl,hnc,hcm,fun h=>(nomatch h),fun hn=>⟨g,0,rfl,rfl,fun j u hu=>?_⟩⟩
  have hj:j<n*size:=by rw[<-h.1];exact(List.getElem?_eq_some_iff.1 hu).1
  rw[Nat.zero_add,World.ownsRow.cellAt h j hj];exact hu
theorem Rd.own_lt {base:Nat}{e:TypeId}(h:w.ownsRow base e size v n xs):Rd w (·<w.heap.size) size v n xs:=
 (Rd.own h).into fun b hb=>(h.lt b hb.symm).2
end
structure jT (P:Program) (t e:TypeId) (z:Value) (size bytes:Nat):Prop where
 ht:P.underlying t=some (.slice e)
 hi:(P.info? e).map (fun i=>(i.zero,i.size,i.bytes))=some (some z,size,bytes)
 hz:z.cells.size=size
 h0:0<size
 hb:0<bytes
section
variable {P : Program} {w : World} {t e : TypeId} {z : Value} {size bytes : Nat}
theorem run_app (E:jT P t e z size bytes)(ty:TypeId){base:Nat}{v:Value}{n:Nat}{xs:List Value}(hown:w.ownsRow base e size v n xs)
  {S:Nat->Prop} {src:Value} {m:Nat} {news:List Value} (hr:Rd w S size src m news) (h1:∀ u∈news,u.oneCell'=true)
  (hn:(n+m)*bytes<=140737488355328) (hbase:base<=w.heap.size):
  ∃ v' w',(Builtin.append_ #[t,t] ty #[v,src]).run P w=.ok v' w'/\w'.ownsRow base e size v' (n+m) (xs++news)/\w.grownBy w' v.ownBlock/\(v'.ownBlock=v.ownBlock∨v'.ownBlock=some w.heap.size):=by
 obtain⟨i,hi,hz0,hz1,hz2⟩:=info_parts E.hi
 have h63:n+m<=maxLen:=by
  have:=Nat.le_trans (Nat.le_mul_of_pos_right (n+m) E.hb) hn;simp only[maxLen];omega
 obtain⟨hl,A,c,rfl,h2,h3,h4,h5⟩:=hr;rcases A with _|ad
 ·have hc:=h4 rfl
  subst hc;obtain rfl:m=0:=by omega
  have hnil:news=[]:=List.eq_nil_of_length_eq_zero (by simpa using hl);subst hnil;exact⟨v,w,run_append_owned_none (P:=P) w base t ty e i size E.ht hi v n xs hown,by simpa using hown,World.grownBy.refl w _,.inl rfl⟩
 ·have hcells:∀ j u,news[j]? =some u->w.cell? (ad.add j)=some u:=by
   intro j u hu;rcases Nat.eq_zero_or_pos m with h0|h0
   ·subst h0
    have hnil:news=[]:=List.eq_nil_of_length_eq_zero (by simpa using hl);subst hnil;simp at hu
   ·obtain⟨b,o,ha,_,hc⟩:=h5 h0
    injection ha with ha
    subst ha;rw[Addr.add_lit];exact hc j u hu
  obtain⟨v',w',hrun,k2,k3,_,k5⟩:=run_append_own_at (P:=P) w base t ty e i z size bytes E.ht hi hz0 hz1 hz2 E.hz E.h0 v n xs hown ad m c news hl hcells h1 h63 hn hbase;exact⟨v',w',hrun,k2,k3,k5⟩
theorem fT {ops:Array Oper}{rest:List Oper}{o:Oper}{a:Act}{Q:Exit->Act->World->Prop}(hgd:o.guard=none)(s x:Operand)
  (ho:o.op=.call {callee:=.builtin .append,args:=#[s,x],argTypes:=#[t,t]})
  (E:jT P t e z size bytes) {base:Nat} {v:Value} {n:Nat} {xs:List Value} (hown:w.ownsRow base e size v n xs) (hs:a.eval s=v)
  {S:Nat->Prop} {src:Value} {m:Nat} {news:List Value} (hr:Rd w S size src m news) (hx:a.eval x=src) (h1:∀ u∈news,u.oneCell'=true)
  (hn:(n+m)*bytes<=140737488355328) (hbase:base<=w.heap.size)
  (h:∀ v' w',w'.ownsRow base e size v' (n+m) (xs++news)->w.grownBy w' v.ownBlock->(v'.ownBlock=v.ownBlock∨v'.ownBlock=some w.heap.size)->wpList P ops Q rest (a.put o.dst v') w'):wpList P ops Q (o::rest) a w:=by
 refine wpList_plain hgd fun K hK=>?_
 obtain⟨v',w',hrun,h2,h3,h4⟩:=run_app E o.type hown hr h1 hn hbase;unfold Oper.wp execOp;simp only[ho,resolve,invoke,builtin,Sem.run_bind,Sem.run_pure,Result.andThen_ok,List.map_toArray,List.map_cons,List.map_nil,hs,hx,hrun];exact hK _ _ (h v' w' h2 h3 h4)
theorem Rd.lit (w:World)(cs:Array Value)(e:TypeId)(n:Nat)(hm:n<=maxLen)(hs:cs.size=n*size):Rd (w.alloc (.cells cs e)) (fun b=>b=w.heap.size) size (.slice (some ⟨w.heap.size,0,none⟩) n n) n cs.toList:=by
 have h:=Rd.own (World.ownsRow_lit (base:=w.heap.size) (e:=e) w cs n (Nat.le_refl _) hm hs);exact h.into fun b hb=>by simpa [Value.ownBlock] using hb
theorem bK {w0 w':World}{row:Option Nat}(h:aB w0 w)(hg:w.grownBy w' row)(hr:∀ k,row=some k->w0.heap.size<=k):aB w0 w':=Below.grown h hg h.size hr
theorem cA {base:Nat}{v:Value}{n:Nat}{xs:List Value}(h:w.ownsRow base e size v n xs):∀ k,v.ownBlock=some k->base<=k:=fun k hk=>(h.lt k hk).1
theorem iS {w w':World}{o:Obj}{row:Option Nat}(h:(w.alloc o).grownBy w' row):w.grownBy w' row:=
 (World.grownBy_alloc w o row).trans h
theorem bJ {w0:World}{ops:Array Oper}{rest:List Oper}{o:Oper}{a:Act}{Q:Exit->Act->World->Prop}(hgd:o.guard=none)(s x:Operand)
  (ho:o.op=.call {callee:=.builtin .append,args:=#[s,x],argTypes:=#[t,t]})
  (E:jT P t e z size bytes) {base:Nat} {v:Value} {n:Nat} {xs:List Value} (hown:w.ownsRow base e size v n xs) (hs:a.eval s=v)
  (m:Nat) (cs:Array Value) (hx:a.eval x=.slice (some ⟨w.heap.size,0,none⟩) m m) (hm:m<=16) (hcs:cs.size=m*size) (h1:∀ u∈cs.toList,u.oneCell'=true)
  (hn:(n+m)*bytes<=140737488355328) (hg:aB w0 w) (hbase:w0.heap.size<=base/\base<=w.heap.size)
  (h:∀ v' w',w'.ownsRow base e size v' (n+m) (xs++cs.toList)->aB w0 w'->w.grownBy w' v.ownBlock->(v'.ownBlock=v.ownBlock∨v'.ownBlock=some (w.heap.size+1))->wpList P ops Q rest (a.put o.dst v') w'):
  wpList P ops Q (o::rest) a (w.alloc (.cells cs e)):=by
 refine fT hgd s x ho E (hown.alloc _) hs (Rd.lit w cs e m (by simp only[maxLen];omega) hcs) hx h1 hn (by rw[World.size_alloc];omega) fun v' w' k1 k2 k3=>?_
 refine h v' w' k1 (bK (hg.al _) k2 fun k hk=>?_) (iS k2) (by rw[World.size_alloc] at k3;exact k3);have:=(hown.lt k hk).1;omega
end
theorem aJ {w w':World}{b e s n:Nat}{v:Value}{xs:List Value}(h:w.ownsRow b e s v n xs)(hg:aB w w'):w'.ownsRow b e s v n xs:=
 h.kept (row:=none) ⟨hg.os,hg.tape,hg.output,hg.size,fun k hk _=>hg.block k hk⟩ (by cases hv:v.ownBlock<;>simp)
theorem aO {w:World}{b e s n m:Nat}{v:Value}{xs ys:List Value}(h:w.ownsRow b e s v n xs)(hn:n=m)(hx:xs=ys):w.ownsRow b e s v m ys:=by subst hn hx;exact h
theorem fP {w:World}{b b' e s n:Nat}{v:Value}{xs:List Value}(h:w.ownsRow b e s v n xs)(hb:b'<=b):w.ownsRow b' e s v n xs:=by
 refine⟨h.1,?_⟩
 rcases h.2 with hn|⟨g,cap,cur,h1,h2,h3⟩
 ·exact .inl hn
 ·exact .inr ⟨g,cap,cur,h1,Nat.le_trans hb h2,h3⟩
theorem at_ {R:Ending->World->Prop}{e e':Ending}{w:World}(hR:R e' w)(h:e=e'):R e w:=h▸hR
theorem vW {a a':Bool}(h:a=a'):Ending.returned (.bool a)=Ending.returned (.bool a'):=by rw[h]
def I64 (n:Int):Prop:=-9223372036854775808<=n/\n<=9223372036854775807
def U64 (n:Int):Prop:=0<=n/\n<=18446744073709551615
theorem qS {α:Type}(g:α->List Value)(size:Nat)(hg:∀ a,(g a).length=size):∀ l:List α,(l.flatMap g).length=l.length*size
 |[]=>by simp
 |a::l=>by
  rw[List.flatMap_cons,List.length_append,hg,qS g size hg l,List.length_cons,Nat.add_mul];omega
theorem mZ {α:Type}(g:α->List Value)(size:Nat)(hg:∀ a,(g a).length=size):∀ (l:List α) (i j:Nat) (hi:i<l.length),j<size->(l.flatMap g)[i*size+j]? =(g l[i])[j]?
 |[],i,j,hi,_=>by simp at hi
 |a::l,0,j,_,hj=>by
  rw[List.flatMap_cons,Nat.zero_mul,Nat.zero_add,List.getElem?_append_left (by rw[hg];exact hj)];rfl
 |a::l,i+1,j,hi,hj=>by
  rw[List.flatMap_cons,List.getElem?_append_right (by rw[hg,Nat.add_mul];omega),hg];have e:(i+1)*size+j-size=i*size+j:=by rw[Nat.add_mul];omega
  rw[e,mZ g size hg l i j (by simpa using hi) hj];rfl
theorem aL {α:Type}{g:α->List Value}{size:Nat}(hg:∀ a,(g a).length=size){l:List α}{w wr:World}{b o:Nat}(hw:aB w wr)(hb:b<w.heap.size)
  (hc:∀ j u,(l.flatMap g)[j]? =some u->w.cell? ⟨b,o+j,none⟩=some u) {i:Nat} (hi:i<l.length):∀ j u,(g l[i])[j]? =some u->wr.cell? ⟨b,o+i*size+j,none⟩=some u:=by
 intro j u hu;have hj:j<size:=by rw[<-hg l[i]];exact(List.getElem?_eq_some_iff.1 hu).1
 rw[Nat.add_assoc];exact(hw.cell (p:=⟨b,o+(i*size+j),none⟩) hb).trans (hc _ _ (by rw[mZ g size hg l i j hi hj];exact hu))
theorem kS {w w1:World}{cs:Array Value}{t:TypeId}(hg:aB (w.alloc (.cells cs t)) w1)(j:Nat):w1.cell? ⟨w.heap.size,j,none⟩=cs[j]? :=by
 have h:=(hg.block w.heap.size (by rw[World.size_alloc];omega)).trans (heap_alloc_new w _);exact cell_of_row w1 w.heap.size j cs t (0,0) h
theorem gW {w w1:World}{o:Obj}(hg:aB (w.alloc o) w1):aB w w1:=((aB.refl w).al o).tr hg
theorem Rd.by_ {w w':World}{S:Nat->Prop}{size n:Nat}{v:Value}{xs:List Value}{row:Option Nat}(h:Rd w S size v n xs)(h0:0<size)(hg:w.grownBy w' row)(hS:∀ b,S b->some b≠row):Rd w' S size v n xs:=by
 have hl:=h.lt h0;obtain⟨hl,A,c,hv,h1,h2,h3,h4⟩:=h;refine⟨hl,A,c,hv,h1,h2,h3,fun hn=>?_⟩;obtain⟨b,o,hA,hSb,hc⟩:=h4 hn;refine⟨b,o,hA,hSb,fun j u hu=>?_⟩;have hlt:=World.block_lt_of_cell? w _ (hc j u hu);exact(World.cell?_of_block (w:=w) (a:=⟨b,o+j,none⟩) (hg.block b hlt (hS b hSb))).trans (hc j u hu)
theorem Rd.own_from {w:World}{base e size n:Nat}{v:Value}{xs:List Value}(h:w.ownsRow base e size v n xs):Rd w (fun b=>base<=b) size v n xs:=
 (Rd.own h).into fun b hb=>(h.lt b hb.symm).1
theorem Rd.gr2 {w w':World}{S:Nat->Prop}{size n:Nat}{v:Value}{xs:List Value}(h:Rd w S size v n xs)(h0:0<size)(hg:aB w w'):Rd w' S size v n xs:=
 h.by_ (row:=none) h0 ⟨hg.os,hg.tape,hg.output,hg.size,fun k hk _=>hg.block k hk⟩ fun _ _=>by simp
end Go.Proofs.YtjalimkajcjapaaGreatDoor
namespace Go.Proofs.YtjalimkajcjapaaGreatDoor
set_option maxRecDepth 100000
open Go.RowKit
def aN (w0:World)(bb:Nat)(cs:Array Value)(t:TypeId)(W:World):Prop:=aB w0 W/\w0.heap.size<=bb/\W.heap[bb]? =some (.cells cs t (0,0))
theorem aN.grow {w0 W:World}{bb:Nat}{cs:Array Value}{t:TypeId}(h:aN w0 bb cs t W):aB w0 W:=h.1
theorem aN.lt {w0 W:World}{bb:Nat}{cs:Array Value}{t:TypeId}(h:aN w0 bb cs t W):bb<W.heap.size:=lt_of_block h.2.2
theorem aN.cell {w0 W:World}{bb:Nat}{cs:Array Value}{t:TypeId}(h:aN w0 bb cs t W)(j:Nat):W.cell? ⟨bb,j,none⟩=cs[j]? :=cell_of_row W bb j cs t (0,0) h.2.2
theorem aN.free {w0 W:World}{bb:Nat}{cs:Array Value}{t:TypeId}(h:aN w0 bb cs t W)(j:Nat):W.frozen? ⟨bb,j,none⟩=false:=frozen_of_row W bb j cs t h.2.2
theorem aN.tr {w0 W W':World}{bb:Nat}{cs:Array Value}{t:TypeId}(h:aN w0 bb cs t W)(hg:aB W W'):aN w0 bb cs t W':=⟨h.1.tr hg,h.2.1,(hg.block bb h.lt).trans h.2.2⟩
theorem aN.laid {w0 w:World}(cs:Array Value)(t:TypeId)(h:aB w0 w):aN w0 w.heap.size cs t (w.alloc (.cells cs t)):=⟨h.al _,h.size,heap_alloc_new w _⟩
theorem aN.set {w0 W:World}{bb:Nat}{cs:Array Value}{t:TypeId}(h:aN w0 bb cs t W)(j:Nat)(v:Value):aN w0 bb (cs.setIfInBounds j v) t (W.setCell ⟨bb,j,none⟩ v):=by
 refine⟨h.1.set (p:=⟨bb,j,none⟩) h.2.1 v,h.2.1,?_⟩;simp[World.setCell,Array.getElem?_modify,h.2.2]
theorem aN.by_ {w0 W W':World}{bb:Nat}{cs:Array Value}{t:TypeId}{row:Option Nat}(h:aN w0 bb cs t W)(hg:W.grownBy W' row)(hw:∀ k,row=some k->w0.heap.size<=k)(hne:some bb≠row):aN w0 bb cs t W':=
 ⟨bK h.1 hg hw,h.2.1,(hg.block bb h.lt hne).trans h.2.2⟩
theorem aN.base {w0 w1 W:World}{bb:Nat}{cs:Array Value}{t:TypeId}(h:aN w1 bb cs t W)(hg:aB w0 w1):aN w0 bb cs t W:=⟨hg.tr h.1,Nat.le_trans hg.size h.2.1,h.2.2⟩
theorem aM {P:Program}{w:World}{t e:TypeId}{z:Value}{size bytes:Nat}{w0:World}{ops:Array Oper}{rest:List Oper}{o:Oper}{a:Act}{Q:Exit->Act->World->Prop}(hgd:o.guard=none)(s x:Operand)
  (ho:o.op=.call {callee:=.builtin .append,args:=#[s,x],argTypes:=#[t,t]})
  (E:jT P t e z size bytes) {base:Nat} {v:Value} {n:Nat} {xs:List Value} (hown:w.ownsRow base e size v n xs) (hs:a.eval s=v)
  (m g:Nat) (hgz:w.heap.size=g) (cs:Array Value) (hx:a.eval x=.slice (some ⟨g,0,none⟩) m m) (hm:m<=16) (hcs:cs.size=m*size) (h1:∀ u∈cs.toList,u.oneCell'=true)
  (hn:(n+m)*bytes<=140737488355328) (hg:aB w0 w) (hbase:w0.heap.size<=base/\base<=w.heap.size)
  (h:∀ v' w',w'.ownsRow base e size v' (n+m) (xs++cs.toList)->aB w0 w'->w.grownBy w' v.ownBlock->(v'.ownBlock=v.ownBlock∨v'.ownBlock=some (w.heap.size+1))->wpList P ops Q rest (a.put o.dst v') w'):
  wpList P ops Q (o::rest) a (w.alloc (.cells cs e)):=by
 subst hgz;exact bJ hgd s x ho E hown hs m cs hx hm hcs h1 hn hg hbase h
theorem aN.other {w0 W:World}{bb cc j:Nat}{cs:Array Value}{t:TypeId}{v:Value}(h:aN w0 bb cs t W)(hne:bb≠cc)(hcc:w0.heap.size<=cc):aN w0 bb cs t (W.setCell ⟨cc,j,none⟩ v):=by
 refine⟨h.1.set (p:=⟨cc,j,none⟩) hcc v,h.2.1,?_⟩;have h2:=h.2.2;simp[World.setCell,Array.getElem?_modify,h2,hne.symm]
theorem aH {w:World}{base e size n:Nat}{v:Value}{xs:List Value}(h:w.ownsRow base e size v n xs):∃ A c,v=.slice A n c:=by
 obtain⟨_,A,c,h,_⟩:=Rd.own h;exact⟨A,c,h⟩
theorem fO {w:World}{base e size n bb j:Nat}{v u:Value}{xs:List Value}(h:w.ownsRow base e size v n xs)(hne:v.ownBlock≠some bb):(w.setCell ⟨bb,j,none⟩ u).ownsRow base e size v n xs:=ownsRow_setCell_other h (a:=⟨bb,j,none⟩) hne u
theorem qM {w:World}{wb:Nat}{v v':Value}(h:v.ownBlock≠some wb)(hlt:wb<w.heap.size)(hb:v'.ownBlock=v.ownBlock∨v'.ownBlock=some (w.heap.size+1)):v'.ownBlock≠some wb:=by
 rcases hb with hb|hb
 ·rw[hb];exact h
 ·rw[hb]
  intro e;injection e with e
  omega
theorem dK (w:World)(a:Addr)(v:Value):(w.setCell a v).heap.size=w.heap.size:=by simp[World.setCell]
end Go.Proofs.YtjalimkajcjapaaGreatDoor
namespace Go.Proofs.YtjalimkajcjapaaGreatDoor.B
set_option maxRecDepth 100000
open Go.RowKit
def gG (o:Oper):Bool:=
 match o.op with
 |.call c=>match c.callee with|.builtin .len=>false|.builtin .min=>false|.builtin .max=>false|.builtin .cap=>false|_=>true
 |.alloc _|.box ..|.buildSlice ..|.makeSlice ..|.store ..|.makeFunc ..|.makeMap ..|.mapUpdate ..|.lookup ..|.insert ..|.typeAssert ..|.makeInterface ..|.panic _|.entryStore ..|.mapEntry ..=>true
 |_=>false
section
variable {P : Program} {ops : Array Oper} {Q : Exit -> Act -> World -> Prop}
def uW (P:Program)(ops:Array Oper)(Q:Exit->Act->World->Prop):List Nat->(World->Prop)->Act->World->Prop
 |[],_,a,w=>Q .normal a w
 |i::rest,G,a,w=>∃ o,ops[i]? =some o/\
   ((∃ v,YieldsIf P ops G o v a/\uW P ops Q rest G (a.put o.dst v) w)∨
    (gG o=true/\wpOp P ops Q i (fun a' w'=>∃ G':World->Prop,(∀ W,G' W->G W)/\G' w'/\uW P ops Q rest G' a' w') a w))
def wQ (ops:Array Oper):List Nat->Array Bool->Bool
 |[],listed=>(Region.ready .any ops listed).isEmpty
 |i::rest,listed=>
  (match ops[i]? with
   |none=>false
   |some o=>if gG o then Region.ready .any ops listed==[i] else Region.free .any ops listed i&&(Region.ready .any ops listed).contains i)&&
  wQ ops rest (listed.setIfInBounds i true)
theorem wV {S S':World->Prop}(h:∀ w,S' w->S w):∀ (fuel:Nat) (listed:Array Bool) (a:Act) (w:World),wpAnyH P .any ops Q S' fuel listed a w->wpAnyH P .any ops Q S fuel listed a w
 |0,_,_,_,hh=>hh
 |fuel+1,_,_,_,hh=>⟨hh.1,fun i hi=>wpOp_mono (fun a' w' h'=>⟨h _ h'.1,wV h fuel _ a' w' h'.2⟩) (hh.2 i hi)⟩
theorem nW (hs:Region.noSelect ops=true)(hQ:∀ (c:List PanicEntry) (a:Act) (d:Option Tmp) (v:Value) (w:World),Q (.panic c) (a.put d v) w->Q (.panic c) a w):
  ∀ (ord:List Nat) (G:World->Prop) (listed:Array Bool) (a:Act) (w:World),wQ ops ord listed=true->G w->uW P ops Q ord G a w->wpAnyH P .any ops Q G ord.length listed a w
 |[],G,listed,a,w,hok,_,h=>by
  have hr:Region.ready .any ops listed=[]:=by simpa [wQ] using hok
  exact⟨hr,h⟩
 |i::rest,G,listed,a,w,hok,hG,h=>by
  obtain⟨o,ho,hc⟩:=h;simp only[wQ,ho,Bool.and_eq_true] at hok;obtain⟨h1,h2⟩:=hok
  rcases hc with ⟨v,hy,hn⟩|⟨ht,hw⟩
  ·have ih:=nW hs hQ rest G _ _ w h2 hG hn
   split at h1
   ·have hr:Region.ready .any ops listed=[i]:=by simpa using h1
    refine wpAnyH_all hr (by simp) fun j hj=>?_
    obtain rfl:j=i:=by simpa using hj
    exact hy.wpOp ho hG ⟨hG,ih⟩
   ·simp only[Bool.and_eq_true] at h1
    exact wpAnyH_take ho hs h1.1 h1.2 (fun c a w=>hQ c a o.dst v w) hy hG ih
  ·rw[if_pos ht] at h1
   have hr:Region.ready .any ops listed=[i]:=by simpa using h1
   refine wpAnyH_all hr (by simp) fun j hj=>?_
   obtain rfl:j=i:=by simpa using hj
   refine wpOp_mono (fun a' w' h'=>?_) hw;obtain⟨G',hGG,hG',hl⟩:=h';exact⟨hGG _ hG',wV hGG _ _ _ _ (nW hs hQ rest G' _ a' w' h2 hG' hl)⟩
def G2 (w0 w:World):World->Prop:=fun W=>aB w0 W/\aB w W
def kC:List Oper->Nat->Option Oper
 |[],_=>none
 |o::_,0=>some o
 |_::l,n+1=>kC l n
theorem cV:∀ (l:List Oper) (i:Nat),l.toArray[i]? =kC l i
 |[],i=>by simp[kC]
 |o::l,0=>by simp[kC]
 |o::l,i+1=>by
  have:=cV l i;simpa [kC] using this
theorem uA {G:World->Prop}{a:Act}{w:World}(h:Q .normal a w):uW P ops Q [] G a w:=h
end
end Go.Proofs.YtjalimkajcjapaaGreatDoor.B
namespace Go.Proofs.YtjalimkajcjapaaGreatDoor
set_option maxRecDepth 100000
open Go.RowKit B
section
variable {P : Program} {ops : Array Oper} {Q : Exit -> Act -> World -> Prop}
theorem hM {id:Nat}{a:Act}{w:World}{l:List Oper}(G:World->Prop)(h0:G w.drew)(ord:List Nat)(hm:P.follows .mixedOrders=true)(hs:Region.noSelect l.toArray=true)(hl:ord.length=l.toArray.size)
  (hok:wQ l.toArray ord (Array.replicate l.toArray.size false)=true)
  (hQ:∀ (c:List PanicEntry) (a:Act) (d:Option Tmp) (v:Value) (w:World),Q (.panic c) (a.put d v) w->Q (.panic c) a w)
  (h:uW P l.toArray Q ord G a w.drew):(Code.region id l.toArray true).wp P Q a w:=by
 have hh:=nW hs hQ ord _ _ a w.drew hok h0 h;rw[hl] at hh;exact wp_region_held hm hh
theorem eA {G:World->Prop}{a:Act}{w:World}{l:List Oper}{i:Nat}{rest:List Nat}{o:Oper}{v:Value}(ho:kC l i=some o)(hw:Region.wanted o (yielded l.toArray a.tmps)=true)
  (hy:∀ W,G W->(execOp a.eval o).run P W=.ok (.value v) W) (h:uW P l.toArray Q rest G (a.put o.dst v) w):
  uW P l.toArray Q (i::rest) G a w:=⟨o,(cV l i).trans ho,.inl ⟨v,.inl ⟨hw,hy⟩,h⟩⟩
theorem dQ {G:World->Prop}{a:Act}{w:World}{l:List Oper}{i:Nat}{rest:List Nat}{o:Oper}(ho:kC l i=some o)(ht:gG o=true)(hw:Region.wanted o (yielded l.toArray a.tmps)=true)
  (h:∀ K':Act->World->Prop,Shut (∀ a' w',G w'->uW P l.toArray Q rest G a' w'->K' a' w')->Oper.wp P o a w K' Q):
  uW P l.toArray Q (i::rest) G a w:=
 ⟨o,(cV l i).trans ho,.inr ⟨ht,wpOp_step ((cV l i).trans ho) fun K' hK=>by
  rw[if_pos hw]
  exact h K' fun a' w' h0 hl=>hK a' w' ⟨G,fun _ hW=>hW,h0,hl⟩⟩⟩
variable {w : World} {t e : TypeId} {z : Value} {size bytes : Nat}
theorem oper_app {o:Oper}{a:Act}{K:Act->World->Prop}(s x:Operand)
  (ho:o.op=.call {callee:=.builtin .append,args:=#[s,x],argTypes:=#[t,t]})
  (E:jT P t e z size bytes) {base:Nat} {v:Value} {n:Nat} {xs:List Value} (hown:w.ownsRow base e size v n xs) (hs:a.eval s=v)
  {S:Nat->Prop} {src:Value} {m:Nat} {news:List Value} (hr:Rd w S size src m news) (hx:a.eval x=src) (h1:∀ u∈news,u.oneCell'=true)
  (hn:(n+m)*bytes<=140737488355328) (hbase:base<=w.heap.size)
  (h:∀ v' w',w'.ownsRow base e size v' (n+m) (xs++news)->w.grownBy w' v.ownBlock->(v'.ownBlock=v.ownBlock∨v'.ownBlock=some w.heap.size)->K (a.put o.dst v') w'):
  Oper.wp P o a w K Q:=by
 obtain⟨v',w',hrun,h2,h3,h4⟩:=run_app E o.type hown hr h1 hn hbase;unfold Oper.wp execOp;simp only[ho,resolve,invoke,builtin,Sem.run_bind,Sem.run_pure,Result.andThen_ok,List.map_toArray,List.map_cons,List.map_nil,hs,hx,hrun];exact h v' w' h2 h3 h4
theorem qE {o:Oper}{a:Act}{K:Act->World->Prop}(s x:Operand)
  (ho:o.op=.call {callee:=.builtin .append,args:=#[s,x],argTypes:=#[t,t]})
  (E:jT P t e z size bytes) {base:Nat} {v:Value} {n:Nat} {xs:List Value} (hown:w.ownsRow base e size v n xs) (hs:a.eval s=v)
  (m:Nat) (cs:Array Value) (hx:a.eval x=.slice (some ⟨w.heap.size,0,none⟩) m m) (hm:m<=16) (hcs:cs.size=m*size) (h1:∀ u∈cs.toList,u.oneCell'=true)
  (hn:(n+m)*bytes<=140737488355328) (hbase:base<=w.heap.size)
  (h:∀ v' w',w'.ownsRow base e size v' (n+m) (xs++cs.toList)->w.grownBy w' v.ownBlock->K (a.put o.dst v') w'):
  Oper.wp P o a (w.alloc (.cells cs e)) K Q:=
 oper_app s x ho E (hown.alloc _) hs (Rd.lit w cs e m (by simp only[maxLen];omega) hcs) hx h1 hn (by rw[World.size_alloc];omega) fun v' w' k1 k2 _=>h v' w' k1 (iS k2)
end
def lP (w0:World)(bb:Nat)(cs:Array Value)(W:World):Prop:=aB w0 W/\bb<W.heap.size/\∀ j,W.cell? ⟨bb,j,none⟩=cs[j]?
theorem lP.tr {w0 W W':World}{bb:Nat}{cs:Array Value}(h:lP w0 bb cs W)(hg:aB W W'):lP w0 bb cs W':=
 ⟨h.1.tr hg,Nat.lt_of_lt_of_le h.2.1 hg.size,fun j=>(hg.cell (p:=⟨bb,j,none⟩) h.2.1).trans (h.2.2 j)⟩
theorem lP.by_ {w0 W W':World}{bb:Nat}{cs:Array Value}{row:Option Nat}(h:lP w0 bb cs W)(hg:W.grownBy W' row)(hw:∀ k,row=some k->w0.heap.size<=k)(hne:some bb≠row):lP w0 bb cs W':=
 ⟨bK h.1 hg hw,Nat.lt_of_lt_of_le h.2.1 hg.size,fun j=>(World.cell?_of_block (w:=W) (a:=⟨bb,j,none⟩) (hg.block bb h.2.1 hne)).trans (h.2.2 j)⟩
theorem lP.laid {w0 w W:World}{cs:Array Value}{t:TypeId}(h:aB w0 w)(hg:aB (w.alloc (.cells cs t)) W):lP w0 w.heap.size cs W:=
 ⟨(h.al _).tr hg,Nat.lt_of_lt_of_le (by rw[World.size_alloc];omega) hg.size,fun j=>kS hg j⟩
end Go.Proofs.YtjalimkajcjapaaGreatDoor
namespace Go.Proofs.YtjalimkajcjapaaGreatDoor.B
set_option maxRecDepth 100000
open Go.RowKit
section
variable {P : Program} {ops : Array Oper} {Q : Exit -> Act -> World -> Prop}
def kF (P:Program)(ops:Array Oper)(Q:Exit->Act->World->Prop)(n:Nat)(L:Array Bool->Act->World->Prop)(S:World->Prop):Nat->Array Bool->Act->World->Prop
 |0,listed,a,w=>L listed a w
 |f+1,listed,a,w=>
  Region.ready .any ops listed≠[]/\∀ i∈Region.ready .any ops listed,i<n/\wpOp P ops Q i (fun a' w'=>S w'/\kF P ops Q n L S f (listed.setIfInBounds i true) a' w') a w
theorem iV {n:Nat}{L:Array Bool->Act->World->Prop}{S S':World->Prop}(h:∀ w,S' w->S w):∀ (f:Nat) (listed:Array Bool) (a:Act) (w:World),kF P ops Q n L S' f listed a w->kF P ops Q n L S f listed a w
 |0,_,_,_,hh=>hh
 |f+1,_,_,_,hh=>⟨hh.1,fun i hi=>⟨(hh.2 i hi).1,wpOp_mono (fun a' w' h'=>⟨h _ h'.1,iV h f _ a' w' h'.2⟩) (hh.2 i hi).2⟩⟩
theorem fE {n g:Nat}{L:Array Bool->Act->World->Prop}{S:World->Prop}(hL:∀ listed a w,L listed a w->wpAny P .any ops Q g listed a w):
  ∀ (f:Nat) (listed:Array Bool) (a:Act) (w:World),kF P ops Q n L S f listed a w->wpAny P .any ops Q (f+g) listed a w
 |0,listed,a,w,h=>by rw[Nat.zero_add];exact hL _ _ _ h
 |f+1,listed,a,w,h=>by
  rw[show f+1+g=(f+g)+1 by omega];exact⟨fun h0=>absurd h0 h.1,fun i hi=>wpOp_mono (fun a' w' h'=>fE hL f _ a' w' h'.2) (h.2 i hi).2⟩
theorem jK {n i:Nat}{oi:Oper}{v:Value}{L:Array Bool->Act->World->Prop}{S:World->Prop}(hi:ops[i]? =some oi)(hsel:∀ (j:Nat) (o:Oper) cs b,ops[j]? =some o->o.op≠.select cs b)
  (hs:Region.sinkB .any ops n=true) (hc:Region.chainB .any ops n=true) (hn:n<ops.size) (hin:i<n)
  (hdone:∀ listed a w,L listed a w->∀ j∈Region.ready .any ops listed,n<=j)
  (hQ:∀ c a w,Q (.panic c) (a.put oi.dst v) w->Q (.panic c) a w):
  ∀ (f:Nat) (listed:Array Bool) (a:Act) (w:World),HeadInv .any ops n listed->
   (∀ j oj,ops[j]? =some oj->j≠i->listed.getD j true=false->(∀ e∈oj.after,Region.binds .any e=true->e.on≠i)->oi.apart ops oj=true)->
   i∈Region.ready .any ops listed->YieldsIf P ops S oi v a->S w->
   kF P ops Q n L S f (listed.setIfInBounds i true) (a.put oi.dst v) w->kF P ops Q n L S (f+1) listed a w:=by
 intro f
 induction f with
 |zero=>
  intro listed a w inv _ hr hy hS H;have hun:=(mem_ready.1 hr).1;refine⟨fun h=>(by rw[h] at hr;cases hr),fun j hj=>?_⟩
  have hjn:j<n:=by
   rcases Nat.lt_or_ge j n with h|h
   ·exact h
   ·exact absurd hj (tail_waits hs hc hn inv _ i rfl hin hun j h)
  refine⟨hjn,?_⟩
  by_cases hji:j=i
  ·subst hji;exact hy.wpOp hi hS ⟨hS,H⟩
  ·have:=hdone _ _ _ H j (ready_mono hj hji)
   omega
 |succ f ih=>
  intro listed a w inv hfree hr hy hS H;have hun:=(mem_ready.1 hr).1;refine⟨fun h=>(by rw[h] at hr;cases hr),fun j hj=>?_⟩
  have hjn:j<n:=by
   rcases Nat.lt_or_ge j n with h|h
   ·exact h
   ·exact absurd hj (tail_waits hs hc hn inv _ i rfl hin hun j h)
  refine⟨hjn,?_⟩
  by_cases hji:j=i
  ·subst hji;exact hy.wpOp hi hS ⟨hS,H⟩
  ·have h1:=(H.2 j (ready_mono hj hji)).2
   obtain⟨hjun,oj,hoj,hall⟩:=mem_ready.1 hj
   have hnot:∀ e∈oj.after,Region.binds .any e=true->e.on≠i:=fun e he hb heq=>by
    have h1:=hall e he hb;rw[heq,getD_both hun] at h1
    cases h1
   have h2:=wpOp_putIf hoj (hfree j oj hoj hji hjun hnot) (fun cs b=>hsel i oi cs b hi) (fun cs b=>hsel j oj cs b hoj) hQ hy h1
   have hfree':∀ k ok,ops[k]? =some ok->k≠i->(listed.setIfInBounds j true).getD k true=false->
     (∀ e∈ok.after,Region.binds .any e=true->e.on≠i)->oi.apart ops ok=true:=fun k ok hk hki hun hno=>by
    refine hfree k ok hk hki ?_ hno
    by_cases hjk:j=k
    ·subst hjk;exact hjun
    ·rw[getD_set_ne true hjk] at hun;exact hun
   refine wpOp_mono (fun a' w' h3=>⟨h3.2.1,ih (listed.setIfInBounds j true) a' w' (inv.set hj hjn) hfree' (ready_mono hr (Ne.symm hji)) h3.1 h3.2.1 ?_⟩) h2;rw[Array.setIfInBounds_comm _ _ hji];exact h3.2.2
def oC (P:Program)(ops:Array Oper)(Q:Exit->Act->World->Prop)(L:Act->World->Prop):List Nat->(World->Prop)->Act->World->Prop
 |[],_,a,w=>L a w
 |i::rest,G,a,w=>∃ o,ops[i]? =some o/\
   ((∃ v,YieldsIf P ops G o v a/\oC P ops Q L rest G (a.put o.dst v) w)∨
    (gG o=true/\wpOp P ops Q i (fun a' w'=>∃ G':World->Prop,(∀ W,G' W->G W)/\G' w'/\oC P ops Q L rest G' a' w') a w))
def qJ (ops:Array Oper)(n g:Nat):List Nat->Array Bool->Bool
 |[],listed=>Region.seqB .any ops g n listed
 |i::rest,listed=>
  decide (i<n)&&
  (match ops[i]? with
   |none=>false
   |some o=>if gG o then Region.ready .any ops listed==[i] else Region.free .any ops listed i&&(Region.ready .any ops listed).contains i)&&
  qJ ops n g rest (listed.setIfInBounds i true)
theorem jC {n g:Nat}{Lq:Act->World->Prop}(hsel:Region.noSelect ops=true)(hs:Region.sinkB .any ops n=true)(hc:Region.chainB .any ops n=true)(hn:n<ops.size)
  (hQ:∀ (c:List PanicEntry) (a:Act) (d:Option Tmp) (v:Value) (w:World),Q (.panic c) (a.put d v) w->Q (.panic c) a w):
  ∀ (ord:List Nat) (G:World->Prop) (listed:Array Bool) (a:Act) (w:World),qJ ops n g ord listed=true->HeadInv .any ops n listed->G w->oC P ops Q Lq ord G a w->
   kF P ops Q n (fun listed' a' w'=>Region.seqB .any ops g n listed'=true/\Lq a' w') G ord.length listed a w
 |[],G,listed,a,w,hok,_,_,h=>⟨hok,h⟩
 |i::rest,G,listed,a,w,hok,inv,hG,h=>by
  obtain⟨o,ho,hcs⟩:=h;simp only[qJ,ho,Bool.and_eq_true,decide_eq_true_eq] at hok;obtain⟨⟨hin,h1⟩,h2⟩:=hok
  rcases hcs with ⟨v,hy,hk⟩|⟨ht,hw⟩
  ·split at h1
   ·have hr:Region.ready .any ops listed=[i]:=by simpa using h1
    have hir:i∈Region.ready .any ops listed:=by rw[hr];simp
    have ih:=jC (Lq:=Lq) hsel hs hc hn hQ rest G _ _ w h2 (inv.set hir hin) hG hk;refine⟨by rw[hr];simp,fun j hj=>?_⟩;rw[hr] at hj;obtain rfl:j=i:=by simpa using hj
    exact⟨hin,hy.wpOp ho hG ⟨hG,ih⟩⟩
   ·simp only[Bool.and_eq_true] at h1
    have hir:i∈Region.ready .any ops listed:=by simpa using h1.2
    have ih:=jC (Lq:=Lq) hsel hs hc hn hQ rest G _ _ w h2 (inv.set hir hin) hG hk;exact jK ho (Region.noSelect_spec hsel) hs hc hn hin (fun listed' a' w' hL=>seqB_ready hL.1) (fun c a w=>hQ c a o.dst v w) _ _ a w inv (Region.free_spec ho h1.1) hir hy hG ih
  ·rw[if_pos ht] at h1
   have hr:Region.ready .any ops listed=[i]:=by simpa using h1
   have hir:i∈Region.ready .any ops listed:=by rw[hr];simp
   refine⟨by rw[hr];simp,fun j hj=>?_⟩;rw[hr] at hj;obtain rfl:j=i:=by simpa using hj
   refine⟨hin,wpOp_mono (fun a' w' h'=>?_) hw⟩;obtain⟨G',hGG,hG',hl⟩:=h';exact⟨hGG _ hG',iV hGG _ _ _ _ (jC hsel hs hc hn hQ rest G' _ a' w' h2 (inv.set hir hin) hG' hl)⟩
def lexTB (ops:Array Oper)(n:Nat)(ord:List Nat):Bool:=
 Region.noSelect ops&&decide (n<ops.size)&&Region.sinkB .any ops n&&Region.chainB .any ops n&&decide (ord.length=n)&&qJ ops n (ops.size-n) ord (Array.replicate ops.size false)
theorem aE {id:Nat}{a:Act}{w:World}{l:List Oper}(G:World->Prop)(h0:G w.drew)(n:Nat)(ord:List Nat)(hm:P.follows .mixedOrders=true)(hB:lexTB l.toArray n ord=true)
  (hQ:∀ (c:List PanicEntry) (a:Act) (d:Option Tmp) (v:Value) (w:World),Q (.panic c) (a.put d v) w->Q (.panic c) a w)
  (h:oC P l.toArray Q (fun a' w'=>wpList P l.toArray Q (l.drop n) a' w') ord G a w.drew):(Code.region id l.toArray true).wp P Q a w:=by
 simp only[lexTB,Bool.and_eq_true,decide_eq_true_eq] at hB;obtain⟨⟨⟨⟨⟨hsel,hn⟩,hs⟩,hc⟩,hol⟩,hlex⟩:=hB
 have inv0:HeadInv .any l.toArray n (Array.replicate l.toArray.size false):=
  ⟨by simp,fun j oj _ hl=>(by rw[getD_replicate_false] at hl;cases hl),fun t _ ht=>getD_in (by simpa using ht) (getD_replicate_false _ _)⟩
 have H:=jC hsel hs hc hn hQ ord G _ a w.drew hlex inv0 h0 h;refine wp_region_any hm ?_;have hdl:(l.drop n).length=l.toArray.size-n:=by simp
 have:=fE (P:=P) (Q:=Q) (g:=l.toArray.size-n) (fun listed a' w' hL=>by
  have:=wpAny_of_seq (P:=P) (md:=.any) (Q':=Q) (l.drop n) n listed a' w' (fun j=>by simp[List.getElem?_drop]) (by rw[hdl];exact hL.1) hL.2
  rwa[hdl] at this) _ _ _ _ H
 rw[hol,show n+(l.toArray.size-n)=l.toArray.size by omega] at this;exact this
variable {L : Act -> World -> Prop}
theorem aK {G:World->Prop}{a:Act}{w:World}(h:L a w):oC P ops Q L [] G a w:=h
theorem bF {G:World->Prop}{a:Act}{w:World}{l:List Oper}{i:Nat}{rest:List Nat}{o:Oper}(ho:kC l i=some o)(hw:Region.wanted o (yielded l.toArray a.tmps)=false)(h:oC P l.toArray Q L rest G (a.put o.dst undef) w):
  oC P l.toArray Q L (i::rest) G a w:=⟨o,(cV l i).trans ho,.inl ⟨undef,.inr ⟨hw,rfl⟩,h⟩⟩
theorem aD {G:World->Prop}{a:Act}{w:World}{l:List Oper}{i:Nat}{rest:List Nat}{o:Oper}{v:Value}(ho:kC l i=some o)(hw:Region.wanted o (yielded l.toArray a.tmps)=true)
  (hy:∀ W,G W->(execOp a.eval o).run P W=.ok (.value v) W) (h:oC P l.toArray Q L rest G (a.put o.dst v) w):
  oC P l.toArray Q L (i::rest) G a w:=⟨o,(cV l i).trans ho,.inl ⟨v,.inl ⟨hw,hy⟩,h⟩⟩
theorem aG {G:World->Prop}{a:Act}{w:World}{l:List Oper}{i:Nat}{rest:List Nat}{o:Oper}(ho:kC l i=some o)(ht:gG o=true)(hw:Region.wanted o (yielded l.toArray a.tmps)=true)
  (h:∀ K':Act->World->Prop,Shut (∀ a' w',G w'->oC P l.toArray Q L rest G a' w'->K' a' w')->Oper.wp P o a w K' Q):
  oC P l.toArray Q L (i::rest) G a w:=
 ⟨o,(cV l i).trans ho,.inr ⟨ht,wpOp_step ((cV l i).trans ho) fun K' hK=>by
  rw[if_pos hw]
  exact h K' fun a' w' h0 hl=>hK a' w' ⟨G,fun _ hW=>hW,h0,hl⟩⟩⟩
end
section
variable {P : Program} {w : World} {t e : TypeId} {z : Value} {size bytes : Nat}
end
end Go.Proofs.YtjalimkajcjapaaGreatDoor.B
namespace Go.Proofs.YtjalimkajcjapaaGreatDoor.B
set_option maxRecDepth 100000
open Go.RowKit
structure FA where
 i:Nat
 d:Option Tmp
 t:TypeId
 cs:Array Value
def dG (b:Nat):Value:=.pointer (some ⟨b,0,none⟩)
theorem iB (a:Act){d e:Option Tmp}(h:d≠e)(u v:Value):(a.put d u).put e v=(a.put e v).put d u:=by
 cases d with
 |none=>rfl
 |some d=>
  cases e with
  |none=>rfl
  |some e=>
   have hde:d≠e:=fun he=>h (by rw[he])
   simp only[Act.put];rw[Array.setIfInBounds_comm _ _ hde]
theorem mO (a:Act)(d:Option Tmp)(u v:Value):(a.put d u).put d v=a.put d v:=by
 cases d with
 |none=>rfl
 |some d=>simp[Act.put]
section
variable {P : Program} {ops : Array Oper} {Q : Exit -> Act -> World -> Prop}
def FA.put2 (f1 f2:FA)(x1 x2:Value)(a:Act):Act:=(a.put f1.d x1).put f2.d x2
def rH (f:FA)(base:Nat)(W:World)(I:List (Nat×Nat))(b:Nat):Prop:=W.heap[b]? =some (.cells f.cs f.t (0,0))/\base<=b/\∀ p∈I,b<p.1∨p.2<=b
def FrT (P:Program)(ops:Array Oper)(Q:Exit->Act->World->Prop)(L:Act->World->Prop)(f1 f2:FA)(base:Nat):List Nat->World->List (Nat×Nat)->Act->Prop
 |[],w,I,a=>∀ b1 b2 W,aB w W->b1≠b2->rH f1 base W I b1->rH f2 base W I b2->L (f1.put2 f2 (dG b1) (dG b2) a) W
 |c::cs,w,I,a=>∃ o,ops[c]? =some o/\o.dst≠f1.d/\o.dst≠f2.d/\
   ((∃ v,(∀ x1 x2,YieldsIf P ops (aB w) o v (f1.put2 f2 x1 x2 a))/\FrT P ops Q L f1 f2 base cs w I (a.put o.dst v))∨
    (gG o=true/\∀ x1 x2 W,aB w W->wpOp P ops Q c (fun a' W'=>∃ v,a'=(f1.put2 f2 x1 x2 a).put o.dst v/\aB W W'/\FrT P ops Q L f1 f2 base cs W' ((W.heap.size,W'.heap.size)::I) (a.put o.dst v)) (f1.put2 f2 x1 x2 a) W))
def bM (f1 f2:FA):Option Nat->Option Nat->List Nat
 |none,none=>[f1.i,f2.i]
 |none,some _=>[f1.i]
 |some _,none=>[f2.i]
 |some _,some _=>[]
def kB (ops:Array Oper)(n g:Nat):Nat->List Nat->List Nat->Array Bool->Bool
 |0,chain,p,listed=>chain.isEmpty&&p.isEmpty&&Region.seqB .any ops g n listed
 |k+1,[],p,listed=>!(Region.ready .any ops listed).isEmpty&&(Region.ready .any ops listed).all (fun i=>p.contains i)&&p.all (fun i=>decide (i<n)&&kB ops n g k [] (p.erase i) (listed.setIfInBounds i true))
 |k+1,c::cs,p,listed=>decide (c<n)&&
  (match ops[c]? with
   |none=>false
   |some o=>if gG o then !(Region.ready .any ops listed).isEmpty&&(Region.ready .any ops listed).all (fun i=>i==c||p.contains i)&&kB ops n g k cs p (listed.setIfInBounds c true)&&p.all (fun i=>decide (i<n)&&kB ops n g k (c::cs) (p.erase i) (listed.setIfInBounds i true))
    else Region.free .any ops listed c&&(Region.ready .any ops listed).contains c&&kB ops n g k cs p (listed.setIfInBounds c true))
def uX (f:FA)(base:Nat)(W:World)(I:List (Nat×Nat))(x:Value):Option Nat->Prop
 |none=>True
 |some b=>x=dG b/\rH f base W I b
theorem uX.grow {f:FA}{base:Nat}{W W':World}{I:List (Nat×Nat)}{x:Value}{s:Option Nat}(h:uX f base W I x s)(hg:aB W W'):uX f base W' I x s:=by
 cases s with
 |none=>trivial
 |some b=>exact⟨h.1,(hg.block b (lt_of_block h.2.1)).trans h.2.1,h.2.2.1,h.2.2.2⟩
theorem uX.call {f:FA}{base:Nat}{W W':World}{I:List (Nat×Nat)}{x:Value}{s:Option Nat}(h:uX f base W I x s)(hg:aB W W'):uX f base W' ((W.heap.size,W'.heap.size)::I) x s:=by
 cases s with
 |none=>trivial
 |some b=>
  refine⟨h.1,(hg.block b (lt_of_block h.2.1)).trans h.2.1,h.2.2.1,fun p hp=>?_⟩;rcases List.mem_cons.1 hp with rfl|hp
  ·exact .inl (lt_of_block h.2.1)
  ·exact h.2.2.2 p hp
structure eS (P:Program) (ops:Array Oper) (Q:Exit->Act->World->Prop) (f:FA):Prop where
 op:∃ o,ops[f.i]? =some o/\o.dst=f.d/\o.guard=none/\∀ (a:Act) (W:World) (K:Act->World->Prop),K (a.put o.dst (dG W.heap.size)) (W.alloc (.cells f.cs f.t))->Oper.wp P o a W K Q
theorem eS.step {f:FA}(h:eS P ops Q f)(a:Act)(W:World){K:Act->World->Prop}(hK:K (a.put f.d (dG W.heap.size)) (W.alloc (.cells f.cs f.t))):wpOp P ops Q f.i K a W:=by
 obtain⟨o,h1,h2,h3,h4⟩:=h.op;refine wpOp_step h1 fun K' hK'=>?_
 rw[if_pos (by simp[Region.wanted,h3])];exact h4 a W K' (hK' _ _ (by rw[h2];exact hK))
theorem frT_held {n g:Nat}{L:Act->World->Prop}{f1 f2:FA}{base:Nat}(hsel:Region.noSelect ops=true)(hs:Region.sinkB .any ops n=true)(hc:Region.chainB .any ops n=true)(hn:n<ops.size)
  (hQ:∀ (c:List PanicEntry) (a:Act) (d:Option Tmp) (v:Value) (w:World),Q (.panic c) (a.put d v) w->Q (.panic c) a w)
  (hd:f1.d≠f2.d) (hi:f1.i≠f2.i) (hA1:eS P ops Q f1) (hA2:eS P ops Q f2):
  ∀ (k:Nat) (chain:List Nat) (s1 s2:Option Nat) (listed:Array Bool) (w:World) (I:List (Nat×Nat)) (a:Act) (x1 x2:Value) (W:World),
   kB ops n g k chain (bM f1 f2 s1 s2) listed=true->HeadInv .any ops n listed->base<=w.heap.size->(∀ p∈I,p.2<=w.heap.size)->aB w W->
   uX f1 base W I x1 s1->uX f2 base W I x2 s2->(∀ b1 b2,s1=some b1->s2=some b2->b1≠b2)->FrT P ops Q L f1 f2 base chain w I a->
   kF P ops Q n (fun listed' a' w'=>Region.seqB .any ops g n listed'=true/\L a' w') (aB w) k listed (f1.put2 f2 x1 x2 a) W:=by
 intro k
 induction k with
 |zero=>
  intro chain s1 s2 listed w I a x1 x2 W hok inv hb hI hg h1 h2 hne h;simp only[kB,Bool.and_eq_true,List.isEmpty_iff] at hok;obtain⟨⟨hch,hp⟩,hseq⟩:=hok;subst hch
  cases s1 with
  |none=>cases s2<;>simp[bM] at hp
  |some b1=>
   cases s2 with
   |none=>simp[bM] at hp
   |some b2=>
    obtain⟨rfl,h1⟩:=h1;obtain⟨rfl,h2⟩:=h2;exact⟨hseq,h b1 b2 W hg (hne _ _ rfl rfl) h1 h2⟩
 |succ k ih=>
  intro chain s1 s2 listed w I a x1 x2 W hok inv hb hI hg h1 h2 hne h
  have lay:∀ i∈Region.ready .any ops listed,i<n->i∈bM f1 f2 s1 s2->kB ops n g k chain ((bM f1 f2 s1 s2).erase i) (listed.setIfInBounds i true)=true->
    wpOp P ops Q i (fun a' w'=>aB w w'/\kF P ops Q n (fun listed' a' w'=>Region.seqB .any ops g n listed'=true/\L a' w') (aB w) k (listed.setIfInBounds i true) a' w') (f1.put2 f2 x1 x2 a) W:=by
   intro i hir hin hip hok';have hbW:base<=W.heap.size:=Nat.le_trans hb hg.size;have hIW:∀ p∈I,W.heap.size<p.1∨p.2<=W.heap.size:=fun p hp=>.inr (Nat.le_trans (hI p hp) hg.size)
   have hgA:aB W (W.alloc (.cells f1.cs f1.t)):=(aB.refl W).al _;have hgB:aB W (W.alloc (.cells f2.cs f2.t)):=(aB.refl W).al _
   have new1:s1=none->i=f1.i->kB ops n g k chain (bM f1 f2 (some W.heap.size) s2) (listed.setIfInBounds i true)=true->wpOp P ops Q i (fun a' w'=>aB w w'/\kF P ops Q n (fun listed' a' w'=>Region.seqB .any ops g n listed'=true/\L a' w') (aB w) k (listed.setIfInBounds i true) a' w') (f1.put2 f2 x1 x2 a) W:=by
    rintro rfl rfl hok2;refine hA1.step _ W ⟨hg.al _,?_⟩
    have e:(f1.put2 f2 x1 x2 a).put f1.d (dG W.heap.size)=f1.put2 f2 (dG W.heap.size) x2 a:=by
     unfold FA.put2;rw[iB _ hd.symm,mO]
    rw[e]
    exact ih chain (some W.heap.size) s2 _ w I a _ _ _ hok2 (inv.set hir hin) hb hI (hg.al _) ⟨rfl,heap_alloc_new W _,hbW,hIW⟩ (h2.grow hgA)
     (fun b1 b2 e1 e2=>by
      injection e1 with e1
      subst e1 e2;have:=lt_of_block h2.2.1
      omega) h
   have new2:s2=none->i=f2.i->kB ops n g k chain (bM f1 f2 s1 (some W.heap.size)) (listed.setIfInBounds i true)=true->wpOp P ops Q i (fun a' w'=>aB w w'/\kF P ops Q n (fun listed' a' w'=>Region.seqB .any ops g n listed'=true/\L a' w') (aB w) k (listed.setIfInBounds i true) a' w') (f1.put2 f2 x1 x2 a) W:=by
    rintro rfl rfl hok2;refine hA2.step _ W ⟨hg.al _,?_⟩
    have e:(f1.put2 f2 x1 x2 a).put f2.d (dG W.heap.size)=f1.put2 f2 x1 (dG W.heap.size) a:=by
     unfold FA.put2;rw[mO]
    rw[e]
    exact ih chain s1 (some W.heap.size) _ w I a _ _ _ hok2 (inv.set hir hin) hb hI (hg.al _) (h1.grow hgB) ⟨rfl,heap_alloc_new W _,hbW,hIW⟩
     (fun b1 b2 e1 e2=>by
      injection e2 with e2
      subst e1 e2;have:=lt_of_block h1.2.1
      omega) h
   cases s1 with
   |none=>
    cases s2 with
    |none=>
     simp only[bM,List.mem_cons,List.not_mem_nil,or_false] at hip;rcases hip with rfl|rfl
     ·exact new1 rfl rfl (by simpa [bM] using hok')
     ·exact new2 rfl rfl (by simpa [bM,List.erase_cons,hi] using hok')
    |some b2=>
     simp only[bM,List.mem_cons,List.not_mem_nil,or_false] at hip;subst hip;exact new1 rfl rfl (by simpa [bM] using hok')
   |some b1=>
    cases s2 with
    |none=>
     simp only[bM,List.mem_cons,List.not_mem_nil,or_false] at hip;subst hip;exact new2 rfl rfl (by simpa [bM] using hok')
    |some b2=>simp[bM] at hip
  cases chain with
  |nil=>
   simp only[kB,Bool.and_eq_true,List.all_eq_true,decide_eq_true_eq] at hok;obtain⟨⟨hr,hall⟩,hp⟩:=hok;refine⟨fun e=>by rw[e] at hr;simp at hr,fun i hir=>?_⟩;have hip:i∈bM f1 f2 s1 s2:=by simpa using hall i hir
   exact⟨(hp i hip).1,lay i hir (hp i hip).1 hip (hp i hip).2⟩
  |cons c cs=>
   obtain⟨o,ho,hd1,hd2,hcs⟩:=h;simp only[kB,ho,Bool.and_eq_true,decide_eq_true_eq] at hok;obtain⟨hcn,hok⟩:=hok
   have puto:∀ v,(f1.put2 f2 x1 x2 a).put o.dst v=f1.put2 f2 x1 x2 (a.put o.dst v):=fun v=>by
    unfold FA.put2;rw[iB _ hd2.symm,iB _ hd1.symm]
   rcases hcs with ⟨v,hy,hk⟩|⟨ht,hw⟩
   ·by_cases ht:gG o=true
    ·rw[if_pos ht] at hok
     simp only[Bool.and_eq_true,List.all_eq_true,decide_eq_true_eq] at hok;obtain⟨⟨⟨hr,hall⟩,hok1⟩,hp⟩:=hok;refine⟨fun e=>by rw[e] at hr;simp at hr,fun i hir=>?_⟩;have hi2:=hall i hir;simp only[Bool.or_eq_true,beq_iff_eq] at hi2;rcases hi2 with rfl|hip
     ·refine⟨hcn,(hy x1 x2).wpOp ho hg ⟨hg,?_⟩⟩
      rw[puto];exact ih cs s1 s2 _ w I _ _ _ _ hok1 (inv.set hir hcn) hb hI hg h1 h2 hne hk
     ·have hip:i∈bM f1 f2 s1 s2:=by simpa using hip
      exact⟨(hp i hip).1,lay i hir (hp i hip).1 hip (hp i hip).2⟩
    ·rw[if_neg ht] at hok
     simp only[Bool.and_eq_true] at hok;obtain⟨⟨hfr,hct⟩,hok1⟩:=hok;have hir:c∈Region.ready .any ops listed:=by simpa using hct
     have hk2:=ih cs s1 s2 _ w I _ x1 x2 W hok1 (inv.set hir hcn) hb hI hg h1 h2 hne hk;rw[<-puto] at hk2;exact jK ho (Region.noSelect_spec hsel) hs hc hn hcn (fun listed' a' w' hL=>seqB_ready hL.1) (fun c a w=>hQ c a o.dst v w) _ _ _ W inv (Region.free_spec ho hfr) hir (hy x1 x2) hg hk2
   ·rw[if_pos ht] at hok
    simp only[Bool.and_eq_true,List.all_eq_true,decide_eq_true_eq] at hok;obtain⟨⟨⟨hr,hall⟩,hok1⟩,hp⟩:=hok;refine⟨fun e=>by rw[e] at hr;simp at hr,fun i hir=>?_⟩;have hi2:=hall i hir;simp only[Bool.or_eq_true,beq_iff_eq] at hi2;rcases hi2 with rfl|hip
    ·refine⟨hcn,wpOp_mono (fun a' W' h'=>?_) (hw x1 x2 W hg)⟩
     obtain⟨v,rfl,hgW,hk⟩:=h';refine⟨hg.tr hgW,?_⟩;rw[puto];refine iV (fun X hX=>(hg.tr hgW).tr hX) _ _ _ _ (ih cs s1 s2 _ W' _ _ x1 x2 W' hok1 (inv.set hir hcn) (Nat.le_trans hb (hg.tr hgW).size) (fun p hp=>?_) (aB.refl _) (h1.call hgW) (h2.call hgW) hne hk);rcases List.mem_cons.1 hp with rfl|hp
     ·exact Nat.le_refl _
     ·exact Nat.le_trans (hI p hp) (hg.tr hgW).size
    ·have hip:i∈bM f1 f2 s1 s2:=by simpa using hip
     exact⟨(hp i hip).1,lay i hir (hp i hip).1 hip (hp i hip).2⟩
def freeB (ops:Array Oper)(n:Nat)(chain:List Nat)(i1 i2:Nat):Bool:=
 Region.noSelect ops&&decide (n<ops.size)&&Region.sinkB .any ops n&&Region.chainB .any ops n&&decide (chain.length+2=n)&&kB ops n (ops.size-n) (chain.length+2) chain [i1,i2] (Array.replicate ops.size false)&&decide (i1≠i2)
theorem oP {id:Nat}{a:Act}{w:World}{l:List Oper}(f1 f2:FA)(n:Nat)(chain:List Nat)(hm:P.follows .mixedOrders=true)(hB:freeB l.toArray n chain f1.i f2.i=true)(hd:f1.d≠f2.d)
  (hA1:eS P l.toArray Q f1) (hA2:eS P l.toArray Q f2)
  (hQ:∀ (c:List PanicEntry) (a:Act) (d:Option Tmp) (v:Value) (w:World),Q (.panic c) (a.put d v) w->Q (.panic c) a w)
  (hu1:a.put f1.d undef=a) (hu2:a.put f2.d undef=a)
  (h:FrT P l.toArray Q (fun a' w'=>wpList P l.toArray Q (l.drop n) a' w') f1 f2 w.heap.size chain w.drew [] a):(Code.region id l.toArray true).wp P Q a w:=by
 simp only[freeB,Bool.and_eq_true,decide_eq_true_eq] at hB;obtain⟨⟨⟨⟨⟨⟨hsel,hn⟩,hs⟩,hc⟩,hol⟩,hok⟩,hi⟩:=hB
 have inv0:HeadInv .any l.toArray n (Array.replicate l.toArray.size false):=
  ⟨by simp,fun j oj _ hl=>(by rw[getD_replicate_false] at hl;cases hl),fun t _ ht=>getD_in (by simpa using ht) (getD_replicate_false _ _)⟩
 have H:=frT_held hsel hs hc hn hQ hd hi hA1 hA2 (chain.length+2) chain none none _ w.drew [] a undef undef w.drew hok inv0 (Nat.le_refl _) (fun p hp=>by simp at hp) (aB.refl _) trivial trivial (fun b1 b2 e=>by cases e) h;have e:f1.put2 f2 undef undef a=a:=by unfold FA.put2;rw[hu1,hu2]
 rw[e] at H;refine wp_region_any hm ?_;have hdl:(l.drop n).length=l.toArray.size-n:=by simp
 have:=fE (P:=P) (Q:=Q) (g:=l.toArray.size-n) (fun listed a' w' hL=>by
  have:=wpAny_of_seq (P:=P) (md:=.any) (Q':=Q) (l.drop n) n listed a' w' (fun j=>by simp[List.getElem?_drop]) (by rw[hdl];exact hL.1) hL.2
  rwa[hdl] at this) _ _ _ _ H
 rw[hol,show n+(l.toArray.size-n)=l.toArray.size by omega] at this;exact this
variable {L : Act -> World -> Prop} {f1 f2 : FA} {base : Nat}
theorem fr_nil {w:World}{I:List (Nat×Nat)}{a:Act}(h:∀ b1 b2 W,aB w W->b1≠b2->rH f1 base W I b1->rH f2 base W I b2->L (f1.put2 f2 (dG b1) (dG b2) a) W):FrT P ops Q L f1 f2 base [] w I a:=h
theorem fr_take {l:List Oper}{w:World}{I:List (Nat×Nat)}{a:Act}{c:Nat}{cs:List Nat}{o:Oper}{v:Value}(ho:kC l c=some o)(hd1:o.dst≠f1.d)(hd2:o.dst≠f2.d)
  (hw:∀ x1 x2,Region.wanted o (yielded l.toArray (f1.put2 f2 x1 x2 a).tmps)=true) (hy:∀ x1 x2 W,aB w W->(execOp (f1.put2 f2 x1 x2 a).eval o).run P W=.ok (.value v) W)
  (h:FrT P l.toArray Q L f1 f2 base cs w I (a.put o.dst v)):FrT P l.toArray Q L f1 f2 base (c::cs) w I a:=
 ⟨o,(cV l c).trans ho,hd1,hd2,.inl ⟨v,fun x1 x2=>.inl ⟨hw x1 x2,fun W hW=>hy x1 x2 W hW⟩,h⟩⟩
theorem fr_turn {l:List Oper}{w:World}{I:List (Nat×Nat)}{a:Act}{c:Nat}{cs:List Nat}{o:Oper}(ho:kC l c=some o)(ht:gG o=true)(hd1:o.dst≠f1.d)(hd2:o.dst≠f2.d)
  (hw:∀ x1 x2,Region.wanted o (yielded l.toArray (f1.put2 f2 x1 x2 a).tmps)=true)
  (h:∀ x1 x2 W,aB w W->∀ K':Act->World->Prop,Shut (∀ v W',aB W W'->FrT P l.toArray Q L f1 f2 base cs W' ((W.heap.size,W'.heap.size)::I) (a.put o.dst v)->K' ((f1.put2 f2 x1 x2 a).put o.dst v) W')->Oper.wp P o (f1.put2 f2 x1 x2 a) W K' Q):
  FrT P l.toArray Q L f1 f2 base (c::cs) w I a:=
 ⟨o,(cV l c).trans ho,hd1,hd2,.inr ⟨ht,fun x1 x2 W hW=>wpOp_step ((cV l c).trans ho) fun K' hK=>by
  rw[if_pos (hw x1 x2)]
  exact h x1 x2 W hW K' fun v W' hg hf=>hK _ _ ⟨v,rfl,hg,hf⟩⟩⟩
end
end Go.Proofs.YtjalimkajcjapaaGreatDoor.B
namespace Go.Proofs.YtjalimkajcjapaaGreatDoor.B
set_option maxRecDepth 100000
open Go.RowKit
section
variable {P : Program} {ops : Array Oper} {Q : Exit -> Act -> World -> Prop}
def Fr1 (P:Program)(ops:Array Oper)(Q:Exit->Act->World->Prop)(L:Act->World->Prop)(f:FA)(base:Nat):List Nat->World->List (Nat×Nat)->Act->Prop
 |[],w,I,a=>∀ b W,aB w W->rH f base W I b->L (a.put f.d (dG b)) W
 |c::cs,w,I,a=>∃ o,ops[c]? =some o/\o.dst≠f.d/\
   ((∃ v,(∀ x,YieldsIf P ops (aB w) o v (a.put f.d x))/\Fr1 P ops Q L f base cs w I (a.put o.dst v))∨
    (gG o=true/\∀ x W,aB w W->wpOp P ops Q c (fun a' W'=>∃ v,a'=(a.put f.d x).put o.dst v/\aB W W'/\Fr1 P ops Q L f base cs W' ((W.heap.size,W'.heap.size)::I) (a.put o.dst v)) (a.put f.d x) W))
def lO (f:FA):Option Nat->List Nat
 |none=>[f.i]
 |some _=>[]
theorem wX {n g:Nat}{L:Act->World->Prop}{f:FA}{base:Nat}(hsel:Region.noSelect ops=true)(hs:Region.sinkB .any ops n=true)(hc:Region.chainB .any ops n=true)(hn:n<ops.size)
  (hQ:∀ (c:List PanicEntry) (a:Act) (d:Option Tmp) (v:Value) (w:World),Q (.panic c) (a.put d v) w->Q (.panic c) a w)
  (hA:eS P ops Q f):
  ∀ (k:Nat) (chain:List Nat) (s:Option Nat) (listed:Array Bool) (w:World) (I:List (Nat×Nat)) (a:Act) (x:Value) (W:World),
   kB ops n g k chain (lO f s) listed=true->HeadInv .any ops n listed->base<=w.heap.size->(∀ p∈I,p.2<=w.heap.size)->aB w W->
   uX f base W I x s->Fr1 P ops Q L f base chain w I a->
   kF P ops Q n (fun listed' a' w'=>Region.seqB .any ops g n listed'=true/\L a' w') (aB w) k listed (a.put f.d x) W:=by
 intro k
 induction k with
 |zero=>
  intro chain s listed w I a x W hok inv hb hI hg h1 h;simp only[kB,Bool.and_eq_true,List.isEmpty_iff] at hok;obtain⟨⟨hch,hp⟩,hseq⟩:=hok;subst hch
  cases s with
  |none=>simp[lO] at hp
  |some b=>
   obtain⟨rfl,h1⟩:=h1;exact⟨hseq,h b W hg h1⟩
 |succ k ih=>
  intro chain s listed w I a x W hok inv hb hI hg h1 h
  have lay:∀ i∈Region.ready .any ops listed,i<n->i∈lO f s->kB ops n g k chain ((lO f s).erase i) (listed.setIfInBounds i true)=true->
    wpOp P ops Q i (fun a' w'=>aB w w'/\kF P ops Q n (fun listed' a' w'=>Region.seqB .any ops g n listed'=true/\L a' w') (aB w) k (listed.setIfInBounds i true) a' w') (a.put f.d x) W:=by
   intro i hir hin hip hok';have hbW:base<=W.heap.size:=Nat.le_trans hb hg.size;have hIW:∀ p∈I,W.heap.size<p.1∨p.2<=W.heap.size:=fun p hp=>.inr (Nat.le_trans (hI p hp) hg.size)
   cases s with
   |none=>
    simp only[lO,List.mem_cons,List.not_mem_nil,or_false] at hip;subst hip;refine hA.step _ W ⟨hg.al _,?_⟩;rw[mO];exact ih chain (some W.heap.size) _ w I a _ _ (by simpa [lO] using hok') (inv.set hir hin) hb hI (hg.al _) ⟨rfl,heap_alloc_new W _,hbW,hIW⟩ h
   |some b=>simp[lO] at hip
  cases chain with
  |nil=>
   simp only[kB,Bool.and_eq_true,List.all_eq_true,decide_eq_true_eq] at hok;obtain⟨⟨hr,hall⟩,hp⟩:=hok;refine⟨fun e=>by rw[e] at hr;simp at hr,fun i hir=>?_⟩;have hip:i∈lO f s:=by simpa using hall i hir
   exact⟨(hp i hip).1,lay i hir (hp i hip).1 hip (hp i hip).2⟩
  |cons c cs=>
   obtain⟨o,ho,hd1,hcs⟩:=h;simp only[kB,ho,Bool.and_eq_true,decide_eq_true_eq] at hok;obtain⟨hcn,hok⟩:=hok;have puto:∀ v,(a.put f.d x).put o.dst v=(a.put o.dst v).put f.d x:=fun v=>iB _ hd1.symm _ _
   rcases hcs with ⟨v,hy,hk⟩|⟨ht,hw⟩
   ·by_cases ht:gG o=true
    ·rw[if_pos ht] at hok
     simp only[Bool.and_eq_true,List.all_eq_true,decide_eq_true_eq] at hok;obtain⟨⟨⟨hr,hall⟩,hok1⟩,hp⟩:=hok;refine⟨fun e=>by rw[e] at hr;simp at hr,fun i hir=>?_⟩;have hi2:=hall i hir;simp only[Bool.or_eq_true,beq_iff_eq] at hi2;rcases hi2 with rfl|hip
     ·refine⟨hcn,(hy x).wpOp ho hg ⟨hg,?_⟩⟩
      rw[puto];exact ih cs s _ w I _ _ _ hok1 (inv.set hir hcn) hb hI hg h1 hk
     ·have hip:i∈lO f s:=by simpa using hip
      exact⟨(hp i hip).1,lay i hir (hp i hip).1 hip (hp i hip).2⟩
    ·rw[if_neg ht] at hok
     simp only[Bool.and_eq_true] at hok;obtain⟨⟨hfr,hct⟩,hok1⟩:=hok;have hir:c∈Region.ready .any ops listed:=by simpa using hct
     have hk2:=ih cs s _ w I _ x W hok1 (inv.set hir hcn) hb hI hg h1 hk;rw[<-puto] at hk2;exact jK ho (Region.noSelect_spec hsel) hs hc hn hcn (fun listed' a' w' hL=>seqB_ready hL.1) (fun c a w=>hQ c a o.dst v w) _ _ _ W inv (Region.free_spec ho hfr) hir (hy x) hg hk2
   ·rw[if_pos ht] at hok
    simp only[Bool.and_eq_true,List.all_eq_true,decide_eq_true_eq] at hok;obtain⟨⟨⟨hr,hall⟩,hok1⟩,hp⟩:=hok;refine⟨fun e=>by rw[e] at hr;simp at hr,fun i hir=>?_⟩;have hi2:=hall i hir;simp only[Bool.or_eq_true,beq_iff_eq] at hi2;rcases hi2 with rfl|hip
    ·refine⟨hcn,wpOp_mono (fun a' W' h'=>?_) (hw x W hg)⟩
     obtain⟨v,rfl,hgW,hk⟩:=h';refine⟨hg.tr hgW,?_⟩;rw[puto];refine iV (fun X hX=>(hg.tr hgW).tr hX) _ _ _ _ (ih cs s _ W' _ _ x W' hok1 (inv.set hir hcn) (Nat.le_trans hb (hg.tr hgW).size) (fun p hp=>?_) (aB.refl _) (h1.call hgW) hk);rcases List.mem_cons.1 hp with rfl|hp
     ·exact Nat.le_refl _
     ·exact Nat.le_trans (hI p hp) (hg.tr hgW).size
    ·have hip:i∈lO f s:=by simpa using hip
     exact⟨(hp i hip).1,lay i hir (hp i hip).1 hip (hp i hip).2⟩
def uD (ops:Array Oper)(n:Nat)(chain:List Nat)(i:Nat):Bool:=
 Region.noSelect ops&&decide (n<ops.size)&&Region.sinkB .any ops n&&Region.chainB .any ops n&&decide (chain.length+1=n)&&kB ops n (ops.size-n) (chain.length+1) chain [i] (Array.replicate ops.size false)
theorem oQ {id:Nat}{a:Act}{w:World}{l:List Oper}(f:FA)(n:Nat)(chain:List Nat)(hm:P.follows .mixedOrders=true)(hB:uD l.toArray n chain f.i=true)
  (hA:eS P l.toArray Q f)
  (hQ:∀ (c:List PanicEntry) (a:Act) (d:Option Tmp) (v:Value) (w:World),Q (.panic c) (a.put d v) w->Q (.panic c) a w)
  (hu:a.put f.d undef=a)
  (h:Fr1 P l.toArray Q (fun a' w'=>wpList P l.toArray Q (l.drop n) a' w') f w.heap.size chain w.drew [] a):(Code.region id l.toArray true).wp P Q a w:=by
 simp only[uD,Bool.and_eq_true,decide_eq_true_eq] at hB;obtain⟨⟨⟨⟨⟨hsel,hn⟩,hs⟩,hc⟩,hol⟩,hok⟩:=hB
 have inv0:HeadInv .any l.toArray n (Array.replicate l.toArray.size false):=
  ⟨by simp,fun j oj _ hl=>(by rw[getD_replicate_false] at hl;cases hl),fun t _ ht=>getD_in (by simpa using ht) (getD_replicate_false _ _)⟩
 have H:=wX hsel hs hc hn hQ hA (chain.length+1) chain none _ w.drew [] a undef w.drew hok inv0 (Nat.le_refl _) (fun p hp=>by simp at hp) (aB.refl _) trivial h;rw[hu] at H;refine wp_region_any hm ?_;have hdl:(l.drop n).length=l.toArray.size-n:=by simp
 have:=fE (P:=P) (Q:=Q) (g:=l.toArray.size-n) (fun listed a' w' hL=>by
  have:=wpAny_of_seq (P:=P) (md:=.any) (Q':=Q) (l.drop n) n listed a' w' (fun j=>by simp[List.getElem?_drop]) (by rw[hdl];exact hL.1) hL.2
  rwa[hdl] at this) _ _ _ _ H
 rw[hol,show n+(l.toArray.size-n)=l.toArray.size by omega] at this;exact this
variable {L : Act -> World -> Prop} {f : FA} {base : Nat}
theorem fr1_nil {w:World}{I:List (Nat×Nat)}{a:Act}(h:∀ b W,aB w W->rH f base W I b->L (a.put f.d (dG b)) W):Fr1 P ops Q L f base [] w I a:=h
theorem jF {l:List Oper}{w:World}{I:List (Nat×Nat)}{a:Act}{c:Nat}{cs:List Nat}{o:Oper}{v:Value}(ho:kC l c=some o)(hd1:o.dst≠f.d)
  (hw:∀ x,Region.wanted o (yielded l.toArray (a.put f.d x).tmps)=true) (hy:∀ x W,aB w W->(execOp (a.put f.d x).eval o).run P W=.ok (.value v) W)
  (h:Fr1 P l.toArray Q L f base cs w I (a.put o.dst v)):Fr1 P l.toArray Q L f base (c::cs) w I a:=
 ⟨o,(cV l c).trans ho,hd1,.inl ⟨v,fun x=>.inl ⟨hw x,fun W hW=>hy x W hW⟩,h⟩⟩
theorem jE {l:List Oper}{w:World}{I:List (Nat×Nat)}{a:Act}{c:Nat}{cs:List Nat}{o:Oper}(ho:kC l c=some o)(ht:gG o=true)(hd1:o.dst≠f.d)
  (hw:∀ x,Region.wanted o (yielded l.toArray (a.put f.d x).tmps)=true)
  (h:∀ x W,aB w W->∀ K':Act->World->Prop,Shut (∀ v W',aB W W'->Fr1 P l.toArray Q L f base cs W' ((W.heap.size,W'.heap.size)::I) (a.put o.dst v)->K' ((a.put f.d x).put o.dst v) W')->Oper.wp P o (a.put f.d x) W K' Q):
  Fr1 P l.toArray Q L f base (c::cs) w I a:=
 ⟨o,(cV l c).trans ho,hd1,.inr ⟨ht,fun x W hW=>wpOp_step ((cV l c).trans ho) fun K' hK=>by
  rw[if_pos (hw x)]
  exact h x W hW K' fun v W' hg hf=>hK _ _ ⟨v,rfl,hg,hf⟩⟩⟩
end
variable {P : Program} {Q : Exit -> Act -> World -> Prop}
theorem mH {id:Nat}{a:Act}{w:World}{l:List Oper}(f:FA)(n:Nat)(chain:List Nat)(hm:P.follows .mixedOrders=true)(hB:uD l.toArray n chain f.i=true)
  (hA:eS P l.toArray Q f)
  (hQ:∀ (c:List PanicEntry) (a:Act) (d:Option Tmp) (v:Value) (w:World),Q (.panic c) (a.put d v) w->Q (.panic c) a w)
  (u:Value) (hu:a.put f.d u=a)
  (h:Fr1 P l.toArray Q (fun a' w'=>wpList P l.toArray Q (l.drop n) a' w') f w.heap.size chain w.drew [] a):(Code.region id l.toArray true).wp P Q a w:=by
 simp only[uD,Bool.and_eq_true,decide_eq_true_eq] at hB;obtain⟨⟨⟨⟨⟨hsel,hn⟩,hs⟩,hc⟩,hol⟩,hok⟩:=hB
 have inv0:HeadInv .any l.toArray n (Array.replicate l.toArray.size false):=
  ⟨by simp,fun j oj _ hl=>(by rw[getD_replicate_false] at hl;cases hl),fun t _ ht=>getD_in (by simpa using ht) (getD_replicate_false _ _)⟩
 have H:=wX hsel hs hc hn hQ hA (chain.length+1) chain none _ w.drew [] a u w.drew hok inv0 (Nat.le_refl _) (fun p hp=>by simp at hp) (aB.refl _) trivial h;rw[hu] at H;refine wp_region_any hm ?_;have hdl:(l.drop n).length=l.toArray.size-n:=by simp
 have:=fE (P:=P) (Q:=Q) (g:=l.toArray.size-n) (fun listed a' w' hL=>by
  have:=wpAny_of_seq (P:=P) (md:=.any) (Q':=Q) (l.drop n) n listed a' w' (fun j=>by simp[List.getElem?_drop]) (by rw[hdl];exact hL.1) hL.2
  rwa[hdl] at this) _ _ _ _ H
 rw[hol,show n+(l.toArray.size-n)=l.toArray.size by omega] at this;exact this
section
variable {P : Program} {ops : Array Oper} {Q : Exit -> Act -> World -> Prop}
def BoxS (f:FA)(w0 W:World)(b:Nat):Prop:=w0.heap.size<=b/\W.heap[b]? =some (.cells f.cs f.t (0,0))
def xV (f:FA)(w0 W:World)(x:Value):Option Nat->Prop
 |none=>True
 |some b=>x=dG b/\BoxS f w0 W b
theorem xV.grow {f:FA}{w0 W W':World}{x:Value}{s:Option Nat}(h:xV f w0 W x s)(hg:aB W W'):xV f w0 W' x s:=by
 cases s with
 |none=>trivial
 |some b=>exact⟨h.1,h.2.1,(hg.block b (lt_of_block h.2.2)).trans h.2.2⟩
def Mono (J:World->Prop):Prop:=∀ W W',aB W W'->J W->J W'
def FrS (P:Program)(ops:Array Oper)(Q:Exit->Act->World->Prop)(L:Act->World->Prop)(f1 f2:FA)(w0:World):List Nat->(World->Prop)->Act->Prop
 |[],J,a=>∀ b1 b2 W,aB w0 W->J W->b1≠b2->BoxS f1 w0 W b1->BoxS f2 w0 W b2->L (f1.put2 f2 (dG b1) (dG b2) a) W
 |c::cs,J,a=>∃ o,ops[c]? =some o/\o.dst≠f1.d/\o.dst≠f2.d/\
   ((∃ v,(∀ x1 x2,YieldsIf P ops (aB w0) o v (f1.put2 f2 x1 x2 a))/\FrS P ops Q L f1 f2 w0 cs J (a.put o.dst v))∨
    (gG o=true/\∀ x1 x2 W,aB w0 W->J W->wpOp P ops Q c (fun a' W'=>∃ (v:Value) (J':World->Prop),a'=(f1.put2 f2 x1 x2 a).put o.dst v/\aB W W'/\Mono J'/\J' W'/\FrS P ops Q L f1 f2 w0 cs J' (a.put o.dst v)) (f1.put2 f2 x1 x2 a) W))
def oS (ops:Array Oper)(n g:Nat)(ls:List Nat):Nat->List Nat->List Nat->Array Bool->Bool
 |0,chain,p,listed=>chain.isEmpty&&p.isEmpty&&qJ ops n g ls listed
 |k+1,[],p,listed=>!(Region.ready .any ops listed).isEmpty&&(Region.ready .any ops listed).all (fun i=>p.contains i)&&p.all (fun i=>decide (i<n)&&oS ops n g ls k [] (p.erase i) (listed.setIfInBounds i true))
 |k+1,c::cs,p,listed=>decide (c<n)&&
  (match ops[c]? with
   |none=>false
   |some o=>if gG o then !(Region.ready .any ops listed).isEmpty&&(Region.ready .any ops listed).all (fun i=>i==c||p.contains i)&&oS ops n g ls k cs p (listed.setIfInBounds c true)&&p.all (fun i=>decide (i<n)&&oS ops n g ls k (c::cs) (p.erase i) (listed.setIfInBounds i true))
    else Region.free .any ops listed c&&(Region.ready .any ops listed).contains c&&oS ops n g ls k cs p (listed.setIfInBounds c true))
theorem frS_held {n g:Nat}{Lq:Act->World->Prop}{f1 f2:FA}{w0:World}{ls:List Nat}(hsel:Region.noSelect ops=true)(hs:Region.sinkB .any ops n=true)(hc:Region.chainB .any ops n=true)(hn:n<ops.size)
  (hQ:∀ (c:List PanicEntry) (a:Act) (d:Option Tmp) (v:Value) (w:World),Q (.panic c) (a.put d v) w->Q (.panic c) a w)
  (hd:f1.d≠f2.d) (hi:f1.i≠f2.i) (hA1:eS P ops Q f1) (hA2:eS P ops Q f2):
  ∀ (k:Nat) (chain:List Nat) (s1 s2:Option Nat) (listed:Array Bool) (J:World->Prop) (a:Act) (x1 x2:Value) (W:World),
   oS ops n g ls k chain (bM f1 f2 s1 s2) listed=true->HeadInv .any ops n listed->aB w0 W->Mono J->J W->
   xV f1 w0 W x1 s1->xV f2 w0 W x2 s2->(∀ b1 b2,s1=some b1->s2=some b2->b1≠b2)->
   FrS P ops Q (fun a W=>∃ G:World->Prop,(∀ W,G W->aB w0 W)/\G W/\oC P ops Q Lq ls G a W) f1 f2 w0 chain J a->
   kF P ops Q n (fun listed' a' w'=>Region.seqB .any ops g n listed'=true/\Lq a' w') (aB w0) (k+ls.length) listed (f1.put2 f2 x1 x2 a) W:=by
 intro k
 induction k with
 |zero=>
  intro chain s1 s2 listed J a x1 x2 W hok inv hg hm hJ h1 h2 hne h;simp only[oS,Bool.and_eq_true,List.isEmpty_iff] at hok;obtain⟨⟨hch,hp⟩,hseq⟩:=hok;subst hch
  cases s1 with
  |none=>cases s2<;>simp[bM] at hp
  |some b1=>
   cases s2 with
   |none=>simp[bM] at hp
   |some b2=>
    obtain⟨rfl,h1⟩:=h1;obtain⟨rfl,h2⟩:=h2;obtain⟨G,hG,hGW,hL⟩:=h b1 b2 W hg hJ (hne _ _ rfl rfl) h1 h2;rw[Nat.zero_add];exact iV hG _ _ _ _ (jC hsel hs hc hn hQ ls G _ _ _ hseq inv hGW hL)
 |succ k ih=>
  intro chain s1 s2 listed J a x1 x2 W hok inv hg hm hJ h1 h2 hne h;rw[show k+1+ls.length=(k+ls.length)+1 by omega]
  have lay:∀ i∈Region.ready .any ops listed,i<n->i∈bM f1 f2 s1 s2->oS ops n g ls k chain ((bM f1 f2 s1 s2).erase i) (listed.setIfInBounds i true)=true->
    wpOp P ops Q i (fun a' w'=>aB w0 w'/\kF P ops Q n (fun listed' a' w'=>Region.seqB .any ops g n listed'=true/\Lq a' w') (aB w0) (k+ls.length) (listed.setIfInBounds i true) a' w') (f1.put2 f2 x1 x2 a) W:=by
   intro i hir hin hip hok';have hbW:w0.heap.size<=W.heap.size:=hg.size;have hgA:aB W (W.alloc (.cells f1.cs f1.t)):=(aB.refl W).al _;have hgB:aB W (W.alloc (.cells f2.cs f2.t)):=(aB.refl W).al _
   have new1:s1=none->i=f1.i->oS ops n g ls k chain (bM f1 f2 (some W.heap.size) s2) (listed.setIfInBounds i true)=true->wpOp P ops Q i (fun a' w'=>aB w0 w'/\kF P ops Q n (fun listed' a' w'=>Region.seqB .any ops g n listed'=true/\Lq a' w') (aB w0) (k+ls.length) (listed.setIfInBounds i true) a' w') (f1.put2 f2 x1 x2 a) W:=by
    rintro rfl rfl hok2;refine hA1.step _ W ⟨hg.al _,?_⟩
    have e:(f1.put2 f2 x1 x2 a).put f1.d (dG W.heap.size)=f1.put2 f2 (dG W.heap.size) x2 a:=by
     unfold FA.put2;rw[iB _ hd.symm,mO]
    rw[e]
    exact ih chain (some W.heap.size) s2 _ J a _ _ _ hok2 (inv.set hir hin) (hg.al _) hm (hm _ _ hgA hJ) ⟨rfl,hbW,heap_alloc_new W _⟩ (h2.grow hgA)
     (fun b1 b2 e1 e2=>by
      injection e1 with e1
      subst e1 e2;have:=lt_of_block h2.2.2
      omega) h
   have new2:s2=none->i=f2.i->oS ops n g ls k chain (bM f1 f2 s1 (some W.heap.size)) (listed.setIfInBounds i true)=true->wpOp P ops Q i (fun a' w'=>aB w0 w'/\kF P ops Q n (fun listed' a' w'=>Region.seqB .any ops g n listed'=true/\Lq a' w') (aB w0) (k+ls.length) (listed.setIfInBounds i true) a' w') (f1.put2 f2 x1 x2 a) W:=by
    rintro rfl rfl hok2;refine hA2.step _ W ⟨hg.al _,?_⟩
    have e:(f1.put2 f2 x1 x2 a).put f2.d (dG W.heap.size)=f1.put2 f2 x1 (dG W.heap.size) a:=by
     unfold FA.put2;rw[mO]
    rw[e]
    exact ih chain s1 (some W.heap.size) _ J a _ _ _ hok2 (inv.set hir hin) (hg.al _) hm (hm _ _ hgB hJ) (h1.grow hgB) ⟨rfl,hbW,heap_alloc_new W _⟩
     (fun b1 b2 e1 e2=>by
      injection e2 with e2
      subst e1 e2;have:=lt_of_block h1.2.2
      omega) h
   cases s1 with
   |none=>
    cases s2 with
    |none=>
     simp only[bM,List.mem_cons,List.not_mem_nil,or_false] at hip;rcases hip with rfl|rfl
     ·exact new1 rfl rfl (by simpa [bM] using hok')
     ·exact new2 rfl rfl (by simpa [bM,List.erase_cons,hi] using hok')
    |some b2=>
     simp only[bM,List.mem_cons,List.not_mem_nil,or_false] at hip;subst hip;exact new1 rfl rfl (by simpa [bM] using hok')
   |some b1=>
    cases s2 with
    |none=>
     simp only[bM,List.mem_cons,List.not_mem_nil,or_false] at hip;subst hip;exact new2 rfl rfl (by simpa [bM] using hok')
    |some b2=>simp[bM] at hip
  cases chain with
  |nil=>
   simp only[oS,Bool.and_eq_true,List.all_eq_true,decide_eq_true_eq] at hok;obtain⟨⟨hr,hall⟩,hp⟩:=hok;refine⟨fun e=>by rw[e] at hr;simp at hr,fun i hir=>?_⟩;have hip:i∈bM f1 f2 s1 s2:=by simpa using hall i hir
   exact⟨(hp i hip).1,lay i hir (hp i hip).1 hip (hp i hip).2⟩
  |cons c cs=>
   obtain⟨o,ho,hd1,hd2,hcs⟩:=h;simp only[oS,ho,Bool.and_eq_true,decide_eq_true_eq] at hok;obtain⟨hcn,hok⟩:=hok
   have puto:∀ v,(f1.put2 f2 x1 x2 a).put o.dst v=f1.put2 f2 x1 x2 (a.put o.dst v):=fun v=>by
    unfold FA.put2;rw[iB _ hd2.symm,iB _ hd1.symm]
   rcases hcs with ⟨v,hy,hk⟩|⟨ht,hw⟩
   ·by_cases ht:gG o=true
    ·rw[if_pos ht] at hok
     simp only[Bool.and_eq_true,List.all_eq_true,decide_eq_true_eq] at hok;obtain⟨⟨⟨hr,hall⟩,hok1⟩,hp⟩:=hok;refine⟨fun e=>by rw[e] at hr;simp at hr,fun i hir=>?_⟩;have hi2:=hall i hir;simp only[Bool.or_eq_true,beq_iff_eq] at hi2;rcases hi2 with rfl|hip
     ·refine⟨hcn,(hy x1 x2).wpOp ho hg ⟨hg,?_⟩⟩
      rw[puto];exact ih cs s1 s2 _ J _ _ _ _ hok1 (inv.set hir hcn) hg hm hJ h1 h2 hne hk
     ·have hip:i∈bM f1 f2 s1 s2:=by simpa using hip
      exact⟨(hp i hip).1,lay i hir (hp i hip).1 hip (hp i hip).2⟩
    ·rw[if_neg ht] at hok
     simp only[Bool.and_eq_true] at hok;obtain⟨⟨hfr,hct⟩,hok1⟩:=hok;have hir:c∈Region.ready .any ops listed:=by simpa using hct
     have hk2:=ih cs s1 s2 _ J _ x1 x2 W hok1 (inv.set hir hcn) hg hm hJ h1 h2 hne hk;rw[<-puto] at hk2;exact jK ho (Region.noSelect_spec hsel) hs hc hn hcn (fun listed' a' w' hL=>seqB_ready hL.1) (fun c a w=>hQ c a o.dst v w) _ _ _ W inv (Region.free_spec ho hfr) hir (hy x1 x2) hg hk2
   ·rw[if_pos ht] at hok
    simp only[Bool.and_eq_true,List.all_eq_true,decide_eq_true_eq] at hok;obtain⟨⟨⟨hr,hall⟩,hok1⟩,hp⟩:=hok;refine⟨fun e=>by rw[e] at hr;simp at hr,fun i hir=>?_⟩;have hi2:=hall i hir;simp only[Bool.or_eq_true,beq_iff_eq] at hi2;rcases hi2 with rfl|hip
    ·refine⟨hcn,wpOp_mono (fun a' W' h'=>?_) (hw x1 x2 W hg hJ)⟩
     obtain⟨v,J',rfl,hgW,hm',hJ',hk⟩:=h';refine⟨hg.tr hgW,?_⟩;rw[puto];exact ih cs s1 s2 _ J' _ x1 x2 W' hok1 (inv.set hir hcn) (hg.tr hgW) hm' hJ' (h1.grow hgW) (h2.grow hgW) hne hk
    ·have hip:i∈bM f1 f2 s1 s2:=by simpa using hip
     exact⟨(hp i hip).1,lay i hir (hp i hip).1 hip (hp i hip).2⟩
def freeSB (ops:Array Oper)(n:Nat)(chain ls:List Nat)(i1 i2:Nat):Bool:=
 Region.noSelect ops&&decide (n<ops.size)&&Region.sinkB .any ops n&&Region.chainB .any ops n&&decide (chain.length+2+ls.length=n)&&oS ops n (ops.size-n) ls (chain.length+2) chain [i1,i2] (Array.replicate ops.size false)&&decide (i1≠i2)
theorem dW {id:Nat}{a:Act}{w:World}{l:List Oper}(f1 f2:FA)(n:Nat)(chain ls:List Nat)(hm:P.follows .mixedOrders=true)(hB:freeSB l.toArray n chain ls f1.i f2.i=true)(hd:f1.d≠f2.d)
  (hA1:eS P l.toArray Q f1) (hA2:eS P l.toArray Q f2)
  (hQ:∀ (c:List PanicEntry) (a:Act) (d:Option Tmp) (v:Value) (w:World),Q (.panic c) (a.put d v) w->Q (.panic c) a w)
  (u1 u2:Value) (hu1:a.put f1.d u1=a) (hu2:a.put f2.d u2=a)
  (h:FrS P l.toArray Q (fun a W=>∃ G:World->Prop,(∀ W,G W->aB w.drew W)/\G W/\oC P l.toArray Q (fun a' w'=>wpList P l.toArray Q (l.drop n) a' w') ls G a W) f1 f2 w.drew chain (fun _=>True) a):(Code.region id l.toArray true).wp P Q a w:=by
 simp only[freeSB,Bool.and_eq_true,decide_eq_true_eq] at hB;obtain⟨⟨⟨⟨⟨⟨hsel,hn⟩,hs⟩,hc⟩,hol⟩,hok⟩,hi⟩:=hB
 have inv0:HeadInv .any l.toArray n (Array.replicate l.toArray.size false):=
  ⟨by simp,fun j oj _ hl=>(by rw[getD_replicate_false] at hl;cases hl),fun t _ ht=>getD_in (by simpa using ht) (getD_replicate_false _ _)⟩
 have H:=frS_held hsel hs hc hn hQ hd hi hA1 hA2 (chain.length+2) chain none none _ _ a u1 u2 w.drew hok inv0 (aB.refl _) (fun _ _ _ h=>h) trivial trivial trivial (fun b1 b2 e=>by cases e) h;have e:f1.put2 f2 u1 u2 a=a:=by unfold FA.put2;first|rw[hu1,hu2]|rw[hu2,hu1]
 rw[e] at H;refine wp_region_any hm ?_;have hdl:(l.drop n).length=l.toArray.size-n:=by simp
 have:=fE (P:=P) (Q:=Q) (g:=l.toArray.size-n) (fun listed a' w' hL=>by
  have:=wpAny_of_seq (P:=P) (md:=.any) (Q':=Q) (l.drop n) n listed a' w' (fun j=>by simp[List.getElem?_drop]) (by rw[hdl];exact hL.1) hL.2
  rwa[hdl] at this) _ _ _ _ H
 rw[hol,show n+(l.toArray.size-n)=l.toArray.size by omega] at this;exact this
variable {L : Act -> World -> Prop} {f1 f2 : FA} {w0 : World} {J : World -> Prop}
theorem mY {a:Act}(h:∀ b1 b2 W,aB w0 W->J W->b1≠b2->BoxS f1 w0 W b1->BoxS f2 w0 W b2->L (f1.put2 f2 (dG b1) (dG b2) a) W):FrS P ops Q L f1 f2 w0 [] J a:=h
theorem bX {l:List Oper}{a:Act}{c:Nat}{cs:List Nat}{o:Oper}{v:Value}(ho:kC l c=some o)(hd1:o.dst≠f1.d)(hd2:o.dst≠f2.d)
  (hw:∀ x1 x2,Region.wanted o (yielded l.toArray (f1.put2 f2 x1 x2 a).tmps)=true) (hy:∀ x1 x2 W,aB w0 W->(execOp (f1.put2 f2 x1 x2 a).eval o).run P W=.ok (.value v) W)
  (h:FrS P l.toArray Q L f1 f2 w0 cs J (a.put o.dst v)):FrS P l.toArray Q L f1 f2 w0 (c::cs) J a:=
 ⟨o,(cV l c).trans ho,hd1,hd2,.inl ⟨v,fun x1 x2=>.inl ⟨hw x1 x2,fun W hW=>hy x1 x2 W hW⟩,h⟩⟩
theorem dS {l:List Oper}{a:Act}{c:Nat}{cs:List Nat}{o:Oper}(ho:kC l c=some o)(ht:gG o=true)(hd1:o.dst≠f1.d)(hd2:o.dst≠f2.d)
  (hw:∀ x1 x2,Region.wanted o (yielded l.toArray (f1.put2 f2 x1 x2 a).tmps)=true)
  (h:∀ x1 x2 W,aB w0 W->J W->∀ K':Act->World->Prop,Shut (∀ v W' (J':World->Prop),aB W W'->Mono J'->J' W'->FrS P l.toArray Q L f1 f2 w0 cs J' (a.put o.dst v)->K' ((f1.put2 f2 x1 x2 a).put o.dst v) W')->Oper.wp P o (f1.put2 f2 x1 x2 a) W K' Q):
  FrS P l.toArray Q L f1 f2 w0 (c::cs) J a:=
 ⟨o,(cV l c).trans ho,hd1,hd2,.inr ⟨ht,fun x1 x2 W hW hJ=>wpOp_step ((cV l c).trans ho) fun K' hK=>by
  rw[if_pos (hw x1 x2)]
  exact h x1 x2 W hW hJ K' fun v W' J' hg hm hJ' hf=>hK _ _ ⟨v,J',rfl,hg,hm,hJ',hf⟩⟩⟩
end
end Go.Proofs.YtjalimkajcjapaaGreatDoor.B
