import Derived.Test.YtjalimkajcjapaaGreatDoorOvG
import Derived.Test.YtjalimkajcjapaaGreatDoorOvT
namespace Go.Proofs.YtjalimkajcjapaaGreatDoor
set_option maxRecDepth 100000
open Go.RowKit Go.Lib B
theorem pZ {ty:Int}{A:List aI}(h:aT ty A=0):1<=ty/\ty<=3/\∀ r∈A,ty<=(r.l.length:Int):=by
 unfold aT at h
 split at h
 ·omega
 ·rename_i h1
  split at h
  ·omega
  ·split at h
   ·omega
   ·rename_i h3
    refine⟨by omega,by omega,fun r hr=>?_⟩;rw[<-Int.not_lt];exact fun h4=>h3 ⟨r,hr,h4⟩
end Go.Proofs.YtjalimkajcjapaaGreatDoor
namespace Go.Proofs.YtjalimkajcjapaaGreatDoor
set_option maxRecDepth 100000
open Go.RowKit B
theorem wZ (f:Ft)(z:Zm)(e:Int)(A:List aI)(n:Nat)(xs:List Value)(S S' Sa:Nat->Prop)(w:World)(hp:Rd w S 1 f.pv A.length (A.map aI.v))(hA:∀ r∈A,r.rd w S')(ha:Rd w Sa 4 f.av n xs)(h1:∀ u∈xs,u.oneCell'=true)(hn:n*48<=140737488355328)(hl:A.length<=400/\∀ r∈A,r.l.length<=400)
  {R:Ending->World->Prop}
  (hbad:(aS z e=true->aT f.ty A=0->dH f.ty z e (A.map aI.l)=[])->∀ w',aB w w'->R (.returned (.tuple #[.agg aV.cells.toArray,.bool false])) w')
  (hok:aS z e=true->aT f.ty A=0->dH f.ty z e (A.map aI.l)≠[]->∀ (pv av:Value) (rows:List aI) (w':World),aB w w'->Rd w' (fun b=>w.heap.size<=b) 1 pv rows.length (rows.map aI.v)->(∀ r∈rows,r.rd w' (fun b=>w.heap.size<=b))->rows.map aI.l=dH f.ty z e (A.map aI.l)->Rd w' (fun b=>w.heap.size<=b∨Sa b) 4 av n xs->R (.returned (.tuple #[.agg (⟨f.h,f.id,f.ty,pv,av⟩:Ft).cells.toArray,.bool true])) w'):
  Calls Tryz.prog 17 #[.agg f.cells.toArray,.agg z.cells.toArray,.int .i64 e] w R:=by
 by_cases t1:f.ty=1
 ·have e1:dH f.ty z e (A.map aI.l)=ptL z e (A.map aI.l):=by unfold dH;rw[if_pos t1]
  rw[e1] at hbad hok;exact uG f z e A n xs S S' Sa w hp hA ha h1 hn ⟨by omega,fun r hr=>by have:=hl.2 r hr;omega⟩ (fun _ _=>t1) hbad hok
 ·by_cases t2:f.ty=2
  ·have e1:dH f.ty z e (A.map aI.l)=lnL z e (A.map aI.l):=by unfold dH lnL;rw[if_neg t1,if_pos t2]
   rw[e1] at hbad hok;exact uF f z e A n xs S S' Sa w hp hA ha h1 hn hl (fun _ _=>t2) hbad hok
  ·have e1:dH f.ty z e (A.map aI.l)=iC z e (A.map aI.l):=by unfold dH;rw[if_neg t1,if_neg t2]
   rw[e1] at hbad hok;exact uE f z e A n xs S S' Sa w hp hA ha h1 hn hl (fun _ h=>by obtain⟨b1,b2,-⟩:=pZ h;omega) hbad hok
end Go.Proofs.YtjalimkajcjapaaGreatDoor
