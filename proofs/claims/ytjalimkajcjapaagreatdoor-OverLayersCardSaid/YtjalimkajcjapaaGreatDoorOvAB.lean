import Derived.Laws.Tables
import Derived.Test.YtjalimkajcjapaaGreatDoorPRightA
namespace Go.Proofs.YtjalimkajcjapaaGreatDoor
set_option maxRecDepth 100000
open Go.RowKit
theorem aB.row2 {w W:World}(h:aB w W){b:Nat}(hb:w.heap.size<=b)(cs:Array Value):aB w (W.setRow b cs):=
 ⟨h.os,h.tape,h.output,by rw[setRow_size];exact h.size,fun k hk=>by rw[setRow_other _ _ _ _ (by omega)];exact h.block k hk⟩
theorem and_63 {n:Int}(h0:0<=n)(h:n<=30):bits BinOp.and IntKind.i64 n 63=n:=by
 have key:∀ k:Fin 31,bits BinOp.and IntKind.i64 (k.val:Int) 63=(k.val:Int):=by decide+kernel
 have:=key ⟨n.toNat,by omega⟩;dsimp only at this
 rwa[show ((n.toNat:Nat):Int)=n by omega] at this
theorem wrap_pw {n:Int}(h0:0<=n)(h:n<=30):wrap64 ((2:Int)^n.toNat)=pw n:=by
 have h1:=yK n;have h2:=pw_le h;have _:=h0;unfold pw at*;unfold wrap64;omega
set_option maxHeartbeats 2000000 in
theorem jM (z:Zm)(e:Int)(w:World){R:Ending->World->Prop}(hR:∀ w',aB w w'->R (.returned (.bool (aS z e))) w'):
  Calls Tryz.prog 15 #[.agg z.cells.toArray,.int .i64 e] w R:=by
 have HR1:∀ c,aS z e=c->∀ w',aB w w'->R (.returned (.bool c)) w':=by rintro c rfl;exact hR
 have HR:=Lh HR1;clear hR HR1;obtain⟨up,x,y,b⟩:=z;unfold Zm.cells;dsimp only;have GA:Hid (aB w (w.alloc (.cells #[.int .i64 up,.int .i64 x,.int .i64 y,.int .i64 b] 26))):=(aB.refl _).al _;have BZ:Hid (aN w w.heap.size #[.int .i64 up,.int .i64 x,.int .i64 y,.int .i64 b] 26 (w.alloc (.cells #[.int .i64 up,.int .i64 x,.int .i64 y,.int .i64 b] 26))):=aN.laid _ _ (aB.refl w)
 obtain⟨z0,z1,z2,z3⟩:=(⟨BZ.out.cell 0,BZ.out.cell 1,BZ.out.cell 2,BZ.out.cell 3⟩:_/\_/\_/\_)
 simp only[List.getElem?_toArray,List.getElem?_cons_zero,List.getElem?_cons_succ] at z0 z1 z2 z3
 by_cases h1:e<1
 ·have t1:=decide_eq_true h1
  have EV:Hid (aS ⟨up,x,y,b⟩ e=false):=by
   cases h:aS ⟨up,x,y,b⟩ e with
   |false=>rfl
   |true=>exfalso;have:=bA h;dsimp only at this;omega
  go_enter Tryz.func15,Tryz.ntmps15
  go_wp2;exact HR.out _ EV.out _ GA.out
 ·have t1:=decide_eq_false h1
  by_cases h2:65536<e
  ·have t2:=decide_eq_true h2
   have EV:Hid (aS ⟨up,x,y,b⟩ e=false):=by
    cases h:aS ⟨up,x,y,b⟩ e with
    |false=>rfl
    |true=>exfalso;have:=bA h;dsimp only at this;omega
   go_enter Tryz.func15,Tryz.ntmps15
   go_wp2;exact HR.out _ EV.out _ GA.out
  ·have t2:=decide_eq_false h2
   by_cases h3:up<0
   ·have t3:=decide_eq_true h3
    have EV:Hid (aS ⟨up,x,y,b⟩ e=false):=by
     cases h:aS ⟨up,x,y,b⟩ e with
     |false=>rfl
     |true=>exfalso;have:=bA h;dsimp only at this;omega
    go_enter Tryz.func15,Tryz.ntmps15
    go_wp2;exact HR.out _ EV.out _ GA.out
   ·have t3:=decide_eq_false h3
    by_cases h4:30<up
    ·have t4:=decide_eq_true h4
     have EV:Hid (aS ⟨up,x,y,b⟩ e=false):=by
      cases h:aS ⟨up,x,y,b⟩ e with
      |false=>rfl
      |true=>exfalso;have:=bA h;dsimp only at this;omega
     go_enter Tryz.func15,Tryz.ntmps15
     go_wp2;exact HR.out _ EV.out _ GA.out
    ·have t4:=decide_eq_false h4
     by_cases h5:b<0
     ·have t5:=decide_eq_true h5
      have EV:Hid (aS ⟨up,x,y,b⟩ e=false):=by
       cases h:aS ⟨up,x,y,b⟩ e with
       |false=>rfl
       |true=>exfalso;have:=bA h;dsimp only at this;omega
      go_enter Tryz.func15,Tryz.ntmps15
      go_wp2;exact HR.out _ EV.out _ GA.out
     ·have t5:=decide_eq_false h5
      by_cases h6:e<b
      ·have t6:=decide_eq_true h6
       have EV:Hid (aS ⟨up,x,y,b⟩ e=false):=by
        cases h:aS ⟨up,x,y,b⟩ e with
        |false=>rfl
        |true=>exfalso;have:=bA h;dsimp only at this;omega
       go_enter Tryz.func15,Tryz.ntmps15
       go_wp2;exact HR.out _ EV.out _ GA.out
      ·have t6:=decide_eq_false h6
       go_enter Tryz.func15,Tryz.ntmps15
       go_upto_region 4 with fail
       rw[wrap_pw (by omega) (by omega)]
       have EV:Hid (aS ⟨up,x,y,b⟩ e=(decide (0<=x)&&decide (x<pw up)&&decide (0<=y)&&decide (y<pw up))):=by
        show _=_;unfold aS zroom;dsimp only;rw[decide_eq_true (show 1<=e by omega),decide_eq_true (show e<=65536 by omega),decide_eq_true (show 0<=up by omega),decide_eq_true (show up<=30 by omega),decide_eq_true (show 0<=b by omega),decide_eq_true (show b<=e by omega)];rfl
       generalize pw up=P at*;clear t1 t2 t3 t4 t5 t6
       obtain⟨c1,g1⟩:∃ c,decide (0<=x)=c:=⟨_,rfl⟩
       obtain⟨c2,g2⟩:∃ c,decide (x<P)=c:=⟨_,rfl⟩
       obtain⟨c3,g3⟩:∃ c,decide (0<=y)=c:=⟨_,rfl⟩
       obtain⟨c4,g4⟩:∃ c,decide (y<P)=c:=⟨_,rfl⟩
       rw[g1,g2,g3,g4] at EV
       cases c1<;>cases c2<;>cases c3<;>cases c4<;>(go_wp2;exact HR.out _ EV.out _ GA.out)
set_option maxHeartbeats 2000000 in
theorem qD (z:Zm)(e:Int)(p:Pt)(w:World)(hz:aS z e=true)(hx:-1048576<=p.x/\p.x<=1048576)(hy:-1048576<=p.y/\p.y<=1048576){R:Ending->World->Prop}(hR:∀ w',aB w w'->R (.returned (.agg (scl z e p).cells.toArray)) w'):
  Calls Tryz.prog 13 #[.agg p.cells.toArray,.agg z.cells.toArray,.int .i64 e] w R:=by
 have HR:=Lh hR;clear hR;obtain⟨h1,h2,h3,h4,h5,h6,h7,h8,h9,h10⟩:=bA hz;have a:=gI hz hx ⟨h7,h8⟩;have b:=gI hz hy ⟨h9,h10⟩;obtain⟨up,x,y,bb⟩:=z;obtain⟨px,py⟩:=p;unfold Zm.cells Pt.cells;unfold scl Pt.cells at HR;dsimp only at*;have m1:wrap64 (px*pw up)=px*pw up:=by unfold wrap64;omega
 have m2:wrap64 (py*pw up)=py*pw up:=by unfold wrap64;omega
 have m3:wrap64 (x*e)=x*e:=by unfold wrap64;omega
 have m4:wrap64 (y*e)=y*e:=by unfold wrap64;omega
 have m5:wrap64 (px*pw up-x*e)=px*pw up-x*e:=by unfold wrap64;omega
 have m6:wrap64 (py*pw up-y*e)=py*pw up-y*e:=by unfold wrap64;omega
 have hs:=wrap_pw h3 h4
 obtain⟨wa,hwa⟩:∃ wa,wa=((w.alloc (.cells #[.int .i64 px,.int .i64 py] 51)).alloc (.cells #[.int .i64 up,.int .i64 x,.int .i64 y,.int .i64 bb] 26)).alloc (.cells #[.int .i64 0,.int .i64 0] 51):=⟨_,rfl⟩
 have GA:Hid (aB w wa):=by subst hwa;exact(((aB.refl _).al _).al _).al _
 have BP:Hid (aN w w.heap.size #[.int .i64 px,.int .i64 py] 51 wa):=by
  rw[hwa];exact((aN.laid #[.int .i64 px,.int .i64 py] 51 (aB.refl w)).tr ((aB.refl _).al _)).tr ((aB.refl _).al _)
 have BZ:Hid (aN w (w.heap.size+1) #[.int .i64 up,.int .i64 x,.int .i64 y,.int .i64 bb] 26 wa):=by
  have:=(aN.laid (w:=w.alloc (.cells #[.int .i64 px,.int .i64 py] 51)) #[.int .i64 up,.int .i64 x,.int .i64 y,.int .i64 bb] 26 ((aB.refl w).al _)).tr ((aB.refl _).al (.cells #[.int .i64 0,.int .i64 0] 51));rw[World.size_alloc] at this;rw[hwa];exact this
 have F0:Hid (wa.heap[w.heap.size+1+1]? =some (.cells #[.int .i64 0,.int .i64 0] 51 (0,0))):=by
  have:=(aN.laid (w:=(w.alloc (.cells #[.int .i64 px,.int .i64 py] 51)).alloc (.cells #[.int .i64 up,.int .i64 x,.int .i64 y,.int .i64 bb] 26)) #[.int .i64 0,.int .i64 0] 51 (((aB.refl w).al _).al _)).2.2;rw[World.size_alloc,World.size_alloc] at this;rw[hwa];exact this
 obtain⟨x0,x1⟩:=(⟨BP.out.cell 0,BP.out.cell 1⟩:_/\_)
 obtain⟨z0,z1,z2⟩:=(⟨BZ.out.cell 0,BZ.out.cell 1,BZ.out.cell 2⟩:_/\_/\_)
 simp only[List.getElem?_toArray,List.getElem?_cons_zero,List.getElem?_cons_succ] at z0 z1 z2 x0 x1;have ha:=and_63 h3 h4;go_enter Tryz.func13,Tryz.ntmps13
 go_upto_region 1 with fail
 rw[<-hwa];clear hwa;go_upto_region 2 with fail
 rw[hs];clear ha hs;go_wp2_with (refine wpList_store_row rfl 51 _ _ rfl (w.heap.size+1+1) #[.int .i64 (px*pw up-x*e),.int .i64 (py*pw up-y*e)] rfl rfl 51 _ F0.out (by kernel_rfl) rfl (by simp[Value.oneCell']) ?_)
 refine bodyPost_ret (v:=.agg #[.int .i64 (px*pw up-x*e),.int .i64 (py*pw up-y*e)]) ?_ rfl (HR.out _ (GA.out.row2 (show w.heap.size<=w.heap.size+1+1 by omega) _));exact results_cell_row rfl _ _ (w.heap.size+1+1) _ _ _ _ rfl (setRow_heap _ _ _ _ _ _ F0.out) Tryz.underlying51 rfl (by kernel_rfl)
theorem scl_ex:scl ⟨1,1,0,0⟩ 4 ⟨3,5⟩=⟨2,10⟩:=by decide
set_option maxHeartbeats 400000 in
theorem qI (w:World){R:Ending->World->Prop}(hR:∀ w',aB w w'->R (.returned (.bool true)) w'):
  Calls Tryz.prog 5 #[] w R:=by
 have HR:=Lh hR;clear hR;have SC:=Lh fun W (R:Ending->World->Prop) hR=>qD ⟨1,1,0,0⟩ 4 ⟨3,5⟩ W (by decide) (by decide) (by decide) (R:=R) hR
 rw[scl_ex] at SC;unfold Zm.cells Pt.cells at SC;dsimp only at SC;go_enter Tryz.func5,Tryz.ntmps5
 go_wp2_with fail
 go_at_call 13;refine SC.out _ _ ?_;intro w1 hg1;have G1:=Lh hg1;clear hg1;go_wp2;exact HR.out _ G1.out
theorem pw_succ {k:Nat}:pw ((k:Int)+1)=2*pw k:=by
 unfold pw;rw[show ((k:Int)+1).toNat=k+1 by omega,show ((k:Int)).toNat=k by omega,Int.pow_succ];omega
set_option maxHeartbeats 400000 in
theorem sJ (n:Int)(w:World)(h0:0<=n)(h:n<=30){R:Ending->World->Prop}(hR:R (.returned (.int .i64 (pw n))) w):
  Calls Tryz.prog 34 #[.int .i64 n] w R:=by
 have HR:=Lh hR;clear hR
 obtain⟨m,rfl⟩:∃ m:Nat,n=m:=⟨n.toNat,by omega⟩
 go_enter Tryz.func34,Tryz.ntmps34
 go_wp2
 go_loopw [4,3] (fun i p wr=>∃ k:Nat,k<=m/\i=.int .i64 k/\p=.int .i64 (pw k)/\wr=w) (fun i _ _=>m-(intOf i).toNat)
 case atStart=>exact⟨0,Nat.zero_le _,rfl,rfl,rfl⟩
 case round=>
  obtain⟨k,hk,rfl,rfl,rfl⟩:=hrel
  by_cases hlt:k<m
  ·have hp:=pw_le (n:=(k:Int)) (by omega)
   have hq:=yK (k:Int);have hw:wrap64 (2*pw k)=2*pw k:=by unfold wrap64;omega
   have PS:Hid (2*pw (k:Int)=pw ((k+1:Nat):Int)):=by show _=_;rw[show ((k+1:Nat):Int)=(k:Int)+1 by omega,pw_succ]
   generalize pw (k:Int)=P at*;go_wp2;go_roundw
   case rel=>exact⟨k+1,by omega,by go_num,by rw[PS.out],by first|rfl|trivial⟩
   case measure=>simp[intOf];omega
  ·obtain rfl:k=m:=by omega
   go_wp2;exact HR.out
end Go.Proofs.YtjalimkajcjapaaGreatDoor
namespace Go.Proofs.YtjalimkajcjapaaGreatDoor
set_option maxRecDepth 100000
open Go.RowKit B
set_option maxHeartbeats 4000000 in
theorem mN (z:Zm)(e:Int)(w:World){R:Ending->World->Prop}(hR:∀ w',aB w w'->R (.returned (.bool (aS z e))) w'):
  Calls Tryz.prog 19 #[.agg z.cells.toArray,.int .i64 e] w R:=by
 have HR1:∀ c,aS z e=c->∀ w',aB w w'->R (.returned (.bool c)) w':=by rintro c rfl;exact hR
 have HR:=Lh HR1;clear hR HR1;obtain⟨up,x,y,b⟩:=z;unfold Zm.cells;dsimp only;have GA:Hid (aB w (w.alloc (.cells #[.int .i64 up,.int .i64 x,.int .i64 y,.int .i64 b] 26))):=(aB.refl _).al _;have BZ:Hid (aN w w.heap.size #[.int .i64 up,.int .i64 x,.int .i64 y,.int .i64 b] 26 (w.alloc (.cells #[.int .i64 up,.int .i64 x,.int .i64 y,.int .i64 b] 26))):=aN.laid _ _ (aB.refl w)
 obtain⟨z0,z1,z2,z3⟩:=(⟨BZ.out.cell 0,BZ.out.cell 1,BZ.out.cell 2,BZ.out.cell 3⟩:_/\_/\_/\_)
 simp only[List.getElem?_toArray,List.getElem?_cons_zero,List.getElem?_cons_succ] at z0 z1 z2 z3
 by_cases h1:e<1
 ·have t1:=decide_eq_true h1
  have EV:Hid (aS ⟨up,x,y,b⟩ e=false):=by
   cases h:aS ⟨up,x,y,b⟩ e with
   |false=>rfl
   |true=>exfalso;have:=bA h;dsimp only at this;omega
  go_enter Tryz.func19,Tryz.ntmps19
  go_wp2;exact HR.out _ EV.out _ GA.out
 ·have t1:=decide_eq_false h1
  by_cases h2:65536<e
  ·have t2:=decide_eq_true h2
   have EV:Hid (aS ⟨up,x,y,b⟩ e=false):=by
    cases h:aS ⟨up,x,y,b⟩ e with
    |false=>rfl
    |true=>exfalso;have:=bA h;dsimp only at this;omega
   go_enter Tryz.func19,Tryz.ntmps19
   go_wp2;exact HR.out _ EV.out _ GA.out
  ·have t2:=decide_eq_false h2
   by_cases h3:up<0
   ·have t3:=decide_eq_true h3
    have EV:Hid (aS ⟨up,x,y,b⟩ e=false):=by
     cases h:aS ⟨up,x,y,b⟩ e with
     |false=>rfl
     |true=>exfalso;have:=bA h;dsimp only at this;omega
    go_enter Tryz.func19,Tryz.ntmps19
    go_wp2;exact HR.out _ EV.out _ GA.out
   ·have t3:=decide_eq_false h3
    by_cases h4:30<up
    ·have t4:=decide_eq_true h4
     have EV:Hid (aS ⟨up,x,y,b⟩ e=false):=by
      cases h:aS ⟨up,x,y,b⟩ e with
      |false=>rfl
      |true=>exfalso;have:=bA h;dsimp only at this;omega
     go_enter Tryz.func19,Tryz.ntmps19
     go_wp2;exact HR.out _ EV.out _ GA.out
    ·have t4:=decide_eq_false h4
     by_cases h5:x<0
     ·have t5:=decide_eq_true h5
      have EV:Hid (aS ⟨up,x,y,b⟩ e=false):=by
       cases h:aS ⟨up,x,y,b⟩ e with
       |false=>rfl
       |true=>exfalso;have:=bA h;dsimp only at this;omega
      go_enter Tryz.func19,Tryz.ntmps19
      go_wp2;exact HR.out _ EV.out _ GA.out
     ·have t5:=decide_eq_false h5
      by_cases h6:y<0
      ·have t6:=decide_eq_true h6
       have EV:Hid (aS ⟨up,x,y,b⟩ e=false):=by
        cases h:aS ⟨up,x,y,b⟩ e with
        |false=>rfl
        |true=>exfalso;have:=bA h;dsimp only at this;omega
       go_enter Tryz.func19,Tryz.ntmps19
       go_wp2;exact HR.out _ EV.out _ GA.out
      ·have t6:=decide_eq_false h6
       have EV:Hid (aS ⟨up,x,y,b⟩ e=(decide (x<pw up)&&decide (y<pw up)&&decide (0<=b)&&decide (b<=e))):=by
        show _=_;unfold aS zroom;dsimp only;rw[decide_eq_true (show 1<=e by omega),decide_eq_true (show e<=65536 by omega),decide_eq_true (show 0<=up by omega),decide_eq_true (show up<=30 by omega),decide_eq_true (show 0<=x by omega),decide_eq_true (show 0<=y by omega)]
        cases decide (x<pw up)<;>cases decide (y<pw up)<;>cases decide (0<=b)<;>cases decide (b<=e)<;>rfl
       have PW:=Lh fun W (R:Ending->World->Prop) hR=>sJ up W (by omega) (by omega) (R:=R) hR
       generalize pw up=P at*
       obtain⟨c1,g1⟩:∃ c,decide (x<P)=c:=⟨_,rfl⟩
       obtain⟨c2,g2⟩:∃ c,decide (y<P)=c:=⟨_,rfl⟩
       obtain⟨c3,g3⟩:∃ c,decide (0<=b)=c:=⟨_,rfl⟩
       obtain⟨c4,g4⟩:∃ c,decide (b<=e)=c:=⟨_,rfl⟩
       rw[g1,g2,g3,g4] at EV;go_enter Tryz.func19,Tryz.ntmps19
       go_upto_region 3 with fail
       clear t1 t2 t3 t4 t5 t6 z0 z1 z2 z3;generalize w.alloc (.cells #[.int .i64 up,.int .i64 x,.int .i64 y,.int .i64 b] 26)=wa at*;refine aE (aB wa.drew) ((aB.refl _)) 23 [0,1,2,3,4,5,6,7,8,9,10,11,12,13,14,15,16,17,18,19,20,21,22] (by kernel_rfl) (by kernel_rfl) (by intro c a d v w h;cases d<;>exact h) ?_;have GA:=Lh GA.out.dr;have BZ:=Lh (BZ.out.tr (aB.refl _).dr);generalize wa.drew=wb at*
       iterate 4 (apply aD;exact rfl;exact rfl;(intro W hW;have z0:=(BZ.out.tr hW).cell 0;have z1:=(BZ.out.tr hW).cell 1;have z2:=(BZ.out.tr hW).cell 2;have z3:=(BZ.out.tr hW).cell 3;simp only[List.getElem?_toArray,List.getElem?_cons_zero,List.getElem?_cons_succ] at z0 z1 z2 z3;(try clear hW);go_simp;with_reducible rfl);try simp only[Act.put,sA,sZ,sS])
       apply aG;exact rfl;exact rfl;exact rfl;intro K hK;go_simp;go_at_call 34;refine PW.out _ _ ?_;refine hK.out _ _ (aB.refl _) ?_;clear hK
       try simp only[Act.put,sA,sZ,sS]
       iterate 2 (apply aD;exact rfl;exact rfl;(intro W hW;have z0:=(BZ.out.tr hW).cell 0;have z1:=(BZ.out.tr hW).cell 1;have z2:=(BZ.out.tr hW).cell 2;have z3:=(BZ.out.tr hW).cell 3;simp only[List.getElem?_toArray,List.getElem?_cons_zero,List.getElem?_cons_succ] at z0 z1 z2 z3;(try clear hW);go_simp;with_reducible rfl);try simp only[Act.put,sA,sZ,sS])
       cases c1 with
       |false=>
        iterate 6 (apply bF;exact rfl;exact rfl;try simp only[Act.put,sA,sZ,sS])
        iterate 2 (apply aD;exact rfl;exact rfl;(intro W hW;(try clear hW);go_simp;with_reducible rfl);try simp only[Act.put,sA,sZ,sS])
        iterate 3 (apply bF;exact rfl;exact rfl;try simp only[Act.put,sA,sZ,sS])
        iterate 2 (apply aD;exact rfl;exact rfl;(intro W hW;(try clear hW);go_simp;with_reducible rfl);try simp only[Act.put,sA,sZ,sS])
        iterate 3 (apply bF;exact rfl;exact rfl;try simp only[Act.put,sA,sZ,sS])
        refine aK ?_;simp only[List.drop_succ_cons,List.drop_zero];go_wp2;exact HR.out _ EV.out _ GA.out
       |true=>
        iterate 4 (apply aD;exact rfl;exact rfl;(intro W hW;have z0:=(BZ.out.tr hW).cell 0;have z1:=(BZ.out.tr hW).cell 1;have z2:=(BZ.out.tr hW).cell 2;have z3:=(BZ.out.tr hW).cell 3;simp only[List.getElem?_toArray,List.getElem?_cons_zero,List.getElem?_cons_succ] at z0 z1 z2 z3;(try clear hW);go_simp;with_reducible rfl);try simp only[Act.put,sA,sZ,sS])
        apply aG;exact rfl;exact rfl;exact rfl;intro K hK;go_simp;go_at_call 34;refine PW.out _ _ ?_;refine hK.out _ _ (aB.refl _) ?_;clear hK
        try simp only[Act.put,sA,sZ,sS]
        iterate 3 (apply aD;exact rfl;exact rfl;(intro W hW;(try clear hW);go_simp;with_reducible rfl);try simp only[Act.put,sA,sZ,sS])
        cases c2 with
        |false=>
         iterate 3 (apply bF;exact rfl;exact rfl;try simp only[Act.put,sA,sZ,sS])
         iterate 2 (apply aD;exact rfl;exact rfl;(intro W hW;(try clear hW);go_simp;with_reducible rfl);try simp only[Act.put,sA,sZ,sS])
         iterate 3 (apply bF;exact rfl;exact rfl;try simp only[Act.put,sA,sZ,sS])
         refine aK ?_;simp only[List.drop_succ_cons,List.drop_zero];go_wp2;exact HR.out _ EV.out _ GA.out
        |true=>
         iterate 3 (apply aD;exact rfl;exact rfl;(intro W hW;have z0:=(BZ.out.tr hW).cell 0;have z1:=(BZ.out.tr hW).cell 1;have z2:=(BZ.out.tr hW).cell 2;have z3:=(BZ.out.tr hW).cell 3;simp only[List.getElem?_toArray,List.getElem?_cons_zero,List.getElem?_cons_succ] at z0 z1 z2 z3;(try clear hW);go_simp;with_reducible rfl);try simp only[Act.put,sA,sZ,sS])
         iterate 2 (apply aD;exact rfl;exact rfl;(intro W hW;(try clear hW);go_simp;with_reducible rfl);try simp only[Act.put,sA,sZ,sS])
         cases c3 with
         |false=>
          iterate 3 (apply bF;exact rfl;exact rfl;try simp only[Act.put,sA,sZ,sS])
          refine aK ?_;simp only[List.drop_succ_cons,List.drop_zero];go_wp2;exact HR.out _ EV.out _ GA.out
         |true=>
          iterate 3 (apply aD;exact rfl;exact rfl;(intro W hW;have z0:=(BZ.out.tr hW).cell 0;have z1:=(BZ.out.tr hW).cell 1;have z2:=(BZ.out.tr hW).cell 2;have z3:=(BZ.out.tr hW).cell 3;simp only[List.getElem?_toArray,List.getElem?_cons_zero,List.getElem?_cons_succ] at z0 z1 z2 z3;(try clear hW);go_simp;with_reducible rfl);try simp only[Act.put,sA,sZ,sS])
          refine aK ?_;simp only[List.drop_succ_cons,List.drop_zero];go_wp2;exact HR.out _ EV.out _ GA.out
set_option maxHeartbeats 4000000 in
theorem lS (z:Zm)(e:Int)(l:List Pt)(v:Value)(S:Nat->Prop)(w:World)(hb:Rd w S 2 v l.length (Pts l))(hl:l.length<=100000)(hz:aS z e=true)(hin:∀ p∈l,(-1048576<=p.x/\p.x<=1048576)/\-1048576<=p.y/\p.y<=1048576){R:Ending->World->Prop}
  (hR:∀ (r:Value) (w':World),w'.ownsRow w.heap.size 51 2 r l.length (Pts (l.map (scl z e)))->aB w w'->R (.returned r) w'):
  Calls Tryz.prog 27 #[v,.agg z.cells.toArray,.int .i64 e] w R:=by
 have HR:=Lh hR;clear hR;have hb:=hb.lt (by decide);obtain⟨_,A,c,rfl,k1,k2,k3,k4⟩:=hb;unfold maxLen at k2;have HIN:=Lh hin;have HZ:=Lh hz;clear hin hz k3
 obtain⟨wa,hwa⟩:∃ wa,wa=w.alloc (.cells z.cells.toArray 26):=⟨_,rfl⟩
 have GA:Hid (aB w wa):=by subst hwa;exact(aB.refl _).al _
 have BZ:Hid (wa.heap[w.heap.size]? =some (.cells z.cells.toArray 26 (0,0))):=by subst hwa;exact heap_alloc_new w _
 go_enter Tryz.func27,Tryz.ntmps27
 go_wp2;rw[<-hwa];clear hwa
 go_loopw [12,7] (fun i s wr=>∃ (k:Nat),k<=l.length/\i=.int .i64 k/\wr.ownsRow wa.heap.size 51 2 s k (Pts ((l.take k).map (scl z e)))/\Hid (aB wa wr)) (fun i _ _=>l.length-(intOf i).toNat)
 case atStart=>exact⟨0,Nat.zero_le _,rfl,World.ownsRow_nil _ _ _ _,aB.refl _⟩
 case round=>
  obtain⟨k,hk,rfl,hown,hg⟩:=hrel;obtain⟨ap,cp,rfl⟩:=aH hown
  by_cases hlt:k<l.length
  ·obtain⟨b,o,rfl,hS,hc⟩:=k4 (by omega)
   have e0:=aL Pt.cells_len (GA.out.tr hg.out) hS hc hlt
   have TS:Hid (Pts ((l.take (k+1)).map (scl z e))=Pts ((l.take k).map (scl z e))++(scl z e (l[k]'hlt)).cells):=by
    show _=_;rw[List.take_succ_eq_append_getElem hlt,List.map_append,gF];simp[Pts]
   have HX:=HIN.out (l[k]'hlt) (List.getElem_mem hlt);have SC:=Lh fun W (R:Ending->World->Prop) hR=>qD z e (l[k]'hlt) W HZ.out HX.1 HX.2 (R:=R) hR
   have HO:=Lh hown;clear hc k4 hown HX;generalize (l[k]'hlt)=p at*;obtain⟨px,py⟩:=p;have x0:=e0 0 _ rfl;have x1:=e0 1 _ rfl;simp only[Nat.add_zero] at x0;clear e0;generalize scl z e ⟨px,py⟩=q at*;obtain⟨qx,qy⟩:=q;unfold Pt.cells at SC TS;dsimp only at SC TS;go_upto_region 5 with fail
   have hg2:aB wr (wr.alloc (.cells #[.int .i64 px,.int .i64 py] 51)):=(aB.refl _).al _
   have BP:=(aN.laid #[.int .i64 px,.int .i64 py] 51 (aB.refl wr))
   obtain⟨y0,y1⟩:=(⟨BP.cell 0,BP.cell 1⟩:_/\_)
   simp only[List.getElem?_toArray,List.getElem?_cons_zero,List.getElem?_cons_succ] at y0 y1;have HO:=Lh (aJ HO.out hg2);have BZ':=Lh (aC (hg.out.tr hg2) BZ.out);have hg:=Lh (hg.out.tr hg2);clear hg2 BP x0 x1;generalize wr.alloc (.cells #[.int .i64 px,.int .i64 py] 51)=w1 at*;generalize wr.heap.size=pb at*;go_wp2_with (refine wpList_load_row rfl 26 _ rfl w.heap.size rfl 26 _ _ _ BZ'.out Tryz.underlying26 rfl (by kernel_rfl) ?_)
   go_at_call 13;refine SC.out _ _ ?_;intro w2 hg2;have HO:=Lh (aJ HO.out hg2);have hg:=Lh (hg.out.tr hg2);clear hg2 BZ' SC y0 y1;go_upto_region 6 with (at_builtin;refine aM rfl _ _ rfl gM HO.out rfl 1 _ rfl _ rfl (by decide) rfl (by simp[Value.oneCell']) (by omega) hg.out ⟨Nat.le_refl _,hg.out.size⟩ ?_;intro v9 w9 hO9 hg9 hgr9 hb9)
   have HO9:=Lh (aO hO9 rfl TS.out.symm);have HG9:=Lh hg9;clear hO9 hg9 hgr9 hb9 HO;go_wp2;go_roundw
   case rel=>exact⟨k+1,by omega,by go_num,HO9.out,HG9.out⟩
   case measure=>simp[intOf];omega
  ·obtain rfl:k=l.length:=by omega
   rw[List.take_length] at hown;have GF:=Lh (GA.out.tr hg.out);have HO:=Lh (fP hown GA.out.size);clear k4 hown;go_wp2;exact HR.out _ _ HO.out GF.out
theorem tP (z:Zm)(e:Int)(p:Pt)(w:World)(hz:aS z e=true)(hx:-1048576<=p.x/\p.x<=1048576)(hy:-1048576<=p.y/\p.y<=1048576){R:Ending->World->Prop}(hR:∀ w',aB w w'->R (.returned (.agg (scl z e p).cells.toArray)) w'):
  Calls Tryz.prog 60 #[.agg p.cells.toArray,.agg z.cells.toArray,.int .i64 e] w R:=by
 have HR:=Lh hR;clear hR;obtain⟨h1,h2,h3,h4,h5,h6,h7,h8,h9,h10⟩:=bA hz;have a:=gI hz hx ⟨h7,h8⟩;have b:=gI hz hy ⟨h9,h10⟩;obtain⟨up,x,y,bb⟩:=z;obtain⟨px,py⟩:=p;unfold Zm.cells Pt.cells;unfold scl Pt.cells at HR;dsimp only at*;have PW:=Lh fun W (R:Ending->World->Prop) hR=>sJ up W h3 h4 (R:=R) hR
 generalize pw up=P at*;have m1:IntKind.i64.wrap (px*P)=px*P:=IntWalk.i64_in _ (by omega);have m2:IntKind.i64.wrap (py*P)=py*P:=IntWalk.i64_in _ (by omega);have m3:IntKind.i64.wrap (x*e)=x*e:=IntWalk.i64_in _ (by omega);have m4:IntKind.i64.wrap (y*e)=y*e:=IntWalk.i64_in _ (by omega);have m5:IntKind.i64.wrap (px*P-x*e)=px*P-x*e:=IntWalk.i64_in _ (by omega);have m6:IntKind.i64.wrap (py*P-y*e)=py*P-y*e:=IntWalk.i64_in _ (by omega)
 obtain⟨wa,hwa⟩:∃ wa,wa=((w.alloc (.cells #[.int .i64 px,.int .i64 py] 51)).alloc (.cells #[.int .i64 up,.int .i64 x,.int .i64 y,.int .i64 bb] 26)).alloc (.cells #[.int .i64 0,.int .i64 0] 51):=⟨_,rfl⟩
 have GA:Hid (aB w wa):=by subst hwa;exact(((aB.refl _).al _).al _).al _
 have BP:Hid (aN w w.heap.size #[.int .i64 px,.int .i64 py] 51 wa):=by
  rw[hwa];exact((aN.laid #[.int .i64 px,.int .i64 py] 51 (aB.refl w)).tr ((aB.refl _).al _)).tr ((aB.refl _).al _)
 have BZ:Hid (aN w (w.heap.size+1) #[.int .i64 up,.int .i64 x,.int .i64 y,.int .i64 bb] 26 wa):=by
  have:=(aN.laid (w:=w.alloc (.cells #[.int .i64 px,.int .i64 py] 51)) #[.int .i64 up,.int .i64 x,.int .i64 y,.int .i64 bb] 26 ((aB.refl w).al _)).tr ((aB.refl _).al (.cells #[.int .i64 0,.int .i64 0] 51));rw[World.size_alloc] at this;rw[hwa];exact this
 have F0:Hid (wa.heap[w.heap.size+1+1]? =some (.cells #[.int .i64 0,.int .i64 0] 51 (0,0))):=by
  have:=(aN.laid (w:=(w.alloc (.cells #[.int .i64 px,.int .i64 py] 51)).alloc (.cells #[.int .i64 up,.int .i64 x,.int .i64 y,.int .i64 bb] 26)) #[.int .i64 0,.int .i64 0] 51 (((aB.refl w).al _).al _)).2.2;rw[World.size_alloc,World.size_alloc] at this;rw[hwa];exact this
 have CE:Hid (∀ W,aB wa W->(W.cell? ⟨w.heap.size,0,none⟩=some (.int .i64 px)/\W.cell? ⟨w.heap.size,1,none⟩=some (.int .i64 py))/\W.cell? ⟨w.heap.size+1,0,none⟩=some (.int .i64 up)/\W.cell? ⟨w.heap.size+1,1,none⟩=some (.int .i64 x)/\W.cell? ⟨w.heap.size+1,2,none⟩=some (.int .i64 y)):=fun W hW=>
  ⟨⟨(BP.out.tr hW).cell 0,(BP.out.tr hW).cell 1⟩,(BZ.out.tr hW).cell 0,(BZ.out.tr hW).cell 1,(BZ.out.tr hW).cell 2⟩
 clear BP BZ hx hy hz a b h1 h2 h3 h4 h5 h6 h7 h8 h9 h10;go_enter Tryz.func60,Tryz.ntmps60
 go_upto_region 1 with fail
 rw[<-hwa];clear hwa;refine aE (aB wa.drew) ((aB.refl _)) 22 [0,1,2,3,6,7,8,9,11,12,13,14,17,18,19,20,4,5,10,15,16,21] (by kernel_rfl) (by kernel_rfl) (by intro c a d v w h;cases d<;>exact h) ?_;have GD:=Lh ((aB.refl wa).dr);have GA:=Lh (GA.out.tr GD.out);have F0:=Lh (aC GD.out F0.out);generalize wa.drew=wb at*
 iterate 16 (apply aD;exact rfl;exact rfl;(intro W hW;obtain⟨⟨x0,x1⟩,z0,z1,z2⟩:=CE.out W (GD.out.tr hW);(try clear hW);go_simp;with_reducible rfl);try simp only[Act.put,sA,sZ,sS])
 apply aG;exact rfl;exact rfl;exact rfl;intro K hK;go_simp;go_at_call 34;refine PW.out _ _ ?_;refine hK.out _ _ (aB.refl _) ?_;clear hK
 try simp only[Act.put,sA,sZ,sS]
 iterate 2 (apply aD;exact rfl;exact rfl;(intro W hW;(try clear hW);go_simp;with_reducible rfl);try simp only[Act.put,sA,sZ,sS])
 apply aG;exact rfl;exact rfl;exact rfl;intro K hK;go_simp;go_at_call 34;refine PW.out _ _ ?_;refine hK.out _ _ (aB.refl _) ?_;clear hK
 try simp only[Act.put,sA,sZ,sS]
 iterate 2 (apply aD;exact rfl;exact rfl;(intro W hW;(try clear hW);go_simp;with_reducible rfl);try simp only[Act.put,sA,sZ,sS])
 refine aK ?_;simp only[List.drop_succ_cons,List.drop_zero];go_wp2_with (refine wpList_store_row rfl 51 _ _ rfl (w.heap.size+1+1) #[.int .i64 (px*P-x*e),.int .i64 (py*P-y*e)] rfl rfl 51 _ F0.out (by kernel_rfl) rfl (by simp[Value.oneCell']) ?_)
 refine bodyPost_ret (v:=.agg #[.int .i64 (px*P-x*e),.int .i64 (py*P-y*e)]) ?_ rfl (HR.out _ (GA.out.row2 (show w.heap.size<=w.heap.size+1+1 by omega) _));exact results_cell_row rfl _ _ (w.heap.size+1+1) _ _ _ _ rfl (setRow_heap _ _ _ _ _ _ F0.out) Tryz.underlying51 rfl (by kernel_rfl)
end Go.Proofs.YtjalimkajcjapaaGreatDoor
