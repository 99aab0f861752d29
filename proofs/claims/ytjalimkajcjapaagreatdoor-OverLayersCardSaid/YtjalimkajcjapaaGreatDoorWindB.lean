import Derived.Test.YtjalimkajcjapaaGreatDoorWindA
import Derived.Test.YtjalimkajcjapaaGreatDoorRowsA
namespace Go.Proofs.YtjalimkajcjapaaGreatDoor.B
set_option maxRecDepth 100000
open Go.RowKit
section
variable {P : Program} {Q : Exit -> Act -> World -> Prop} {S : World -> Prop} {l : List Oper}
def PanOk (Q:Exit->Act->World->Prop):Prop:=∀ (c:List PanicEntry) (a:Act) (d:Option Tmp) (v:Value) (w:World),Q (.panic c) (a.put d v) w->Q (.panic c) a w
def takeOk (l:List Oper)(listed:Array Bool)(i:Nat):Bool:=Region.noSelect l.toArray&&Region.free .any l.toArray listed i&&(Region.ready .any l.toArray listed).contains i
structure tB (P:Program) (l:List Oper) (Q:Exit->Act->World->Prop) (S:World->Prop) (f:Nat) (listed:Array Bool) (a:Act) (w:World):Prop where
 pan:PanOk Q
 here:S w
 walk:wpAnyH P .any l.toArray Q S f listed a w
theorem aY {i:Nat}{o:Oper}{v:Value}{f:Nat}{listed:Array Bool}{a:Act}{w:World}(ho:kC l i=some o)(hw:Region.wanted o (yielded l.toArray a.tmps)=true)(hok:takeOk l listed i=true)
  (hy:∀ W,S W->(execOp a.eval o).run P W=.ok (.value v) W) (h:tB P l Q S f (listed.setIfInBounds i true) (a.put o.dst v) w):tB P l Q S (f+1) listed a w:=by
 simp only[takeOk,Bool.and_eq_true] at hok;exact⟨h.pan,h.here,wpAnyH_take ((cV l i).trans ho) hok.1.1 hok.1.2 hok.2 (fun c a w=>h.pan c a o.dst v w) (.inl ⟨hw,hy⟩) h.here h.walk⟩
theorem bW {i:Nat}{o:Oper}{f:Nat}{listed:Array Bool}{a:Act}{w:World}(ho:kC l i=some o)(hw:Region.wanted o (yielded l.toArray a.tmps)=true)
  (h:∀ K':Act->World->Prop,Shut (∀ a' w',tB P l Q S f (listed.setIfInBounds i true) a' w'->K' a' w')->Oper.wp P o a w K' Q):
  wpOp P l.toArray Q i (fun a' w'=>S w'/\wpAnyH P .any l.toArray Q S f (listed.setIfInBounds i true) a' w') a w:=
 wpOp_step ((cV l i).trans ho) fun K' hK=>by
  rw[if_pos hw];exact h K' fun a' w' hh=>hK a' w' ⟨hh.here,hh.walk⟩
theorem dC {rs:List Nat}{f:Nat}{listed:Array Bool}{a:Act}{w:World}(hp:PanOk Q)(hS:S w)(hr:Region.ready .any l.toArray listed=rs)(hne:rs.isEmpty=false)
  (h:∀ i∈rs,wpOp P l.toArray Q i (fun a' w'=>S w'/\wpAnyH P .any l.toArray Q S f (listed.setIfInBounds i true) a' w') a w):tB P l Q S (f+1) listed a w:=
 ⟨hp,hS,wpAnyH_all hr (by rintro rfl;simp at hne) h⟩
theorem gZ {listed:Array Bool}{a:Act}{w:World}{f:Nat}(hp:PanOk Q)(hS:S w)(hr:Region.ready .any l.toArray listed=[])(h:Q .normal a w):tB P l Q S f listed a w:=
 ⟨hp,hS,wpAnyH_done hr h f⟩
theorem jU {id:Nat}{a:Act}{w:World}(S:World->Prop)(hm:P.follows .mixedOrders=true)(n:Nat)(hn:l.length=n)(h:tB P l Q S n (Array.replicate n false) a w.drew):(Code.region id l.toArray true).wp P Q a w:=by
 subst hn;exact wp_region_held hm (by simpa using h.walk)
end
end Go.Proofs.YtjalimkajcjapaaGreatDoor.B
namespace Go.Proofs.YtjalimkajcjapaaGreatDoor
set_option maxRecDepth 100000
open Go.RowKit B
def dM (n:Int):Int:=if n<0 then -1 else if 0<n then 1 else 0
def cmpI (a b:Int):Int:=if a<b then -1 else if b<a then 1 else 0
set_option maxHeartbeats 1000000 in
theorem cmpInt_any (a b:Int)(w:World){R:Ending->World->Prop}(hR:R (.returned (.int .i64 (cmpI a b))) w):
  Calls Tryz.prog 50 #[.int .i64 a,.int .i64 b] w R:=by
 have HR1:∀ n,cmpI a b=n->R (.returned (.int .i64 n)) w:=by rintro n rfl;exact hR
 have HR:=Lh HR1;clear hR HR1
 by_cases h1:a<b
 ·go_enter Tryz.func50,Tryz.ntmps50
  go_wp2;exact HR.out _ (by unfold cmpI;rw[if_pos h1])
 ·by_cases h2:b<a
  ·go_enter Tryz.func50,Tryz.ntmps50
   go_wp2;exact HR.out _ (by unfold cmpI;rw[if_neg (by omega),if_pos h2])
  ·go_enter Tryz.func50,Tryz.ntmps50
   go_wp2;exact HR.out _ (by unfold cmpI;rw[if_neg (by omega),if_neg (by omega)])
theorem cmpI_zero (n:Int):cmpI n 0=dM n:=rfl
def bP (l:List Pt):Int:=if cQ l=true then rF l else 0
set_option maxHeartbeats 1000000 in
theorem iU (l:List Pt)(v:Value)(S:Nat->Prop)(w:World)(hb:Rd w S 2 v l.length (Pts l)){R:Ending->World->Prop}
  (hR:∀ w',aB w w'->R (.returned (.int .i64 (dM (bP l)))) w'):
  Calls Tryz.prog 28 #[v] w R:=by
 have HR:=Lh hR;have HA:=Lh fun (R:Ending->World->Prop) hR=>area_any l v S w hb (R:=R) hR
 have HC:=Lh fun W (R:Ending->World->Prop) hR=>cmpInt_any (bP l) 0 W (R:=R) hR
 rw[cmpI_zero] at HC
 change Hid (∀ (R:Ending->World->Prop),(∀ w',aB w w'->R (.returned (.tuple #[.int .i64 (bP l),.bool (cQ l)])) w')->Calls Tryz.prog 49 #[v] w R) at HA
 clear hR hb;generalize dM (bP l)=s at*;generalize bP l=n at*;generalize cQ l=b at*;go_enter Tryz.func28,Tryz.ntmps28
 go_wp2_with fail
 refine HA.out _ ?_;intro w1 hg1;go_wp2_with fail
 refine HC.out _ _ ?_;go_wp2;exact HR.out _ hg1
def oR (f:Pt×Pt->Int):List (Pt×Pt)->Int
 |[]=>0
 |x::l=>f x+oR f l
theorem rT (f:Pt×Pt->Int)(l:List (Pt×Pt))(x:Pt×Pt):oR f (l++[x])=oR f l+f x:=by
 induction l with
 |nil=>simp[oR]
 |cons y l ih=>simp only[List.cons_append,oR,ih];omega
theorem xR (l:List (Pt×Pt)):gO l=oR (fun x=>x.1.x*x.2.y) l-oR (fun x=>x.2.x*x.1.y) l:=by
 induction l with
 |nil=>rfl
 |cons x l ih=>simp only[gO,oR,qY,ih];omega
theorem edgesL_in {l:List Pt}(h:∀ p∈l,(-2097152<=p.x/\p.x<=2097152)/\-2097152<=p.y/\p.y<=2097152):∀ x∈cC l,((-2097152<=x.1.x/\x.1.x<=2097152)/\-2097152<=x.1.y/\x.1.y<=2097152)/\(-2097152<=x.2.x/\x.2.x<=2097152)/\-2097152<=x.2.y/\x.2.y<=2097152:=by
 intro x hx;obtain⟨i,hi,rfl⟩:=List.getElem_of_mem hx;rw[eL] at hi;rw[jG hi];exact⟨h _ (List.getElem_mem hi),h _ (List.getElem_mem (Nat.mod_lt (i+1) (show 0<l.length by omega)))⟩
set_option maxHeartbeats 4000000 in
theorem rarea_any (l:List Pt)(v:Value)(S:Nat->Prop)(w:World)(hb:Rd w S 2 v l.length (Pts l)){R:Ending->World->Prop}
  (hR:∀ w',aB w w'->R (.returned (.tuple #[.int .i64 (bP l),.bool (cQ l)])) w'):
  Calls Tryz.prog 99 #[v] w R:=by
 have hb:=hb.lt (by decide);have HW:=Lh fun (R:Ending->World->Prop) hR=>tR l v _ w hb (R:=R) hR
 cases hr:cQ l with
 |false=>
  rw[hr] at hR HW;have hv:bP l=0:=by simp[bP,hr]
  rw[hv] at hR;have HR:=Lh hR;clear hr hR hb hv;go_enter Tryz.func99,Tryz.ntmps99
  go_wp2_with (go_at_call 124;refine HW.out _ ?_;intro w1 hg1)
  exact HR.out _ hg1
 |true=>
  rw[hr] at hR HW;have hv:bP l=rF l:=by simp[bP,hr]
  rw[hv] at hR;have HR:=Lh hR;have hlen:l.length<=262144:=by simp[cQ] at hr;exact hr.1
  have hin:∀ p∈l,(-2097152<=p.x/\p.x<=2097152)/\-2097152<=p.y/\p.y<=2097152:=by
   intro p hp;simp only[cQ,Bool.and_eq_true,List.all_eq_true] at hr;exact Pt.inr_iff.1 (hr.2 p hp)
  have HE:=Lh (edgesL_in hin);clear hr hR hv hin;obtain⟨_,A,c,rfl,k1,k2,-,k4⟩:=hb;unfold maxLen at k2;go_enter Tryz.func99,Tryz.ntmps99
  go_wp2_with (go_at_call 124;refine HW.out _ ?_;intro w1 hg1;have G1:=Lh hg1;clear hg1)
  go_loopw [6,4,5] (fun i sa sb wr=>∃ (k:Nat) (x y:Int),k<=l.length/\i=.int .i64 k/\sa=.int .i64 x/\sb=.int .i64 y/\Hid (x=oR (fun x=>x.1.x*x.2.y) ((cC l).take k)/\y=oR (fun x=>x.2.x*x.1.y) ((cC l).take k))/\(-(4398046511104*(k:Int))<=x/\x<=4398046511104*(k:Int))/\(-(4398046511104*(k:Int))<=y/\y<=4398046511104*(k:Int))/\Hid (aB w wr)) (fun i _ _ _=>l.length-(intOf i).toNat)
  case atStart=>exact⟨0,0,0,Nat.zero_le _,rfl,rfl,rfl,⟨rfl,rfl⟩,by omega,by omega,G1.out⟩
  case round=>
   obtain⟨k,sx,sy,hk,rfl,rfl,rfl,hs,hbx,hby,hg⟩:=hrel
   by_cases hlt:k<l.length
   ·obtain⟨b,o,rfl,hS,hc⟩:=k4 (by omega)
    have hm:(k+1)%l.length<l.length:=Nat.mod_lt _ (by omega);have h0:0<l.length:=by omega
    have LT:b<wr.heap.size:=Nat.lt_of_lt_of_le hS hg.out.size;have e1:=fun W (h:aB wr W)=>aL Pt.cells_len (hg.out.tr h) hS hc hlt
    have e2:=fun W (h:aB wr W)=>aL Pt.cells_len (hg.out.tr h) hS hc h0
    have EN:Hid ((k+1<l.length->(k+1)%l.length=k+1)/\(¬ k+1<l.length->(k+1)%l.length=0)):=⟨fun h=>Nat.mod_eq_of_lt h,fun h=>by rw[show k+1=l.length by omega];exact Nat.mod_self _⟩
    have HED:Hid ((cC l).take (k+1)=(cC l).take k++[(l[k]'hlt,l[(k+1)%l.length]'hm)]):=by
     show _=_;rw[List.take_succ_eq_append_getElem (by rw[eL];exact hlt),jG hlt]
    have HIN:=HE.out (l[k]'hlt,l[(k+1)%l.length]'hm) (by rw[<-jG hlt];exact List.getElem_mem _);have e3:=fun (h1:k+1<l.length) W (h:aB wr W)=>aL Pt.cells_len (hg.out.tr h) hS hc h1
    have HQ:Hid ((∀ h1:k+1<l.length,l[(k+1)%l.length]'hm=l[k+1]'h1)/\(¬ k+1<l.length->l[(k+1)%l.length]'hm=l[0]'h0)):=by
     refine⟨fun h1=>?_,fun h1=>?_⟩
     ·have:=EN.out.1 h1
      simp only[this]
     ·have:=EN.out.2 h1
      simp only[this]
    clear k4 hc EN;generalize l[(k+1)%l.length]'hm=q at*;generalize hpp:l[k]'hlt=p at*;generalize hzz:l[0]'h0=z at*;obtain⟨p1,p2⟩:=p;obtain⟨z1,z2⟩:=z;obtain⟨q1,q2⟩:=q
    have C1:Hid (∀ W,aB wr W->W.cell? ⟨b,o+k*2,none⟩=some (.int .i64 p1)/\W.cell? ⟨b,o+k*2+1,none⟩=some (.int .i64 p2)):=fun W h=>⟨e1 W h 0 _ rfl,e1 W h 1 _ rfl⟩
    have C2:Hid (∀ W,aB wr W->W.cell? ⟨b,o,none⟩=some (.int .i64 z1)/\W.cell? ⟨b,o+1,none⟩=some (.int .i64 z2)):=fun W h=>⟨by have:=e2 W h 0 _ rfl;simpa using this,by have:=e2 W h 1 _ rfl;simpa using this⟩
    have C3:Hid (k+1<l.length->∀ W,aB wr W->W.cell? ⟨b,o+(k+1)*2,none⟩=some (.int .i64 q1)/\W.cell? ⟨b,o+(k+1)*2+1,none⟩=some (.int .i64 q2)):=fun h1 W h=>by
     have:=e3 h1;rw[<-HQ.out.1 h1] at this;exact⟨this W h 0 _ rfl,this W h 1 _ rfl⟩
    have HZ:Hid (¬ k+1<l.length->z1=q1/\z2=q2):=fun h1=>by
     have:=HQ.out.2 h1;injection this with a b
     exact⟨a.symm,b.symm⟩
    clear e1 e2 e3 HQ;have hl0:(0:Int)<l.length:=by omega
    obtain⟨⟨⟨g1,g2⟩,g3,g4⟩,⟨g5,g6⟩,g7,g8⟩:=HIN;dsimp only at g1 g2 g3 g4 g5 g6 g7 g8;have m1:=lC ⟨g1,g2⟩ ⟨g7,g8⟩;have m2:=lC ⟨g5,g6⟩ ⟨g3,g4⟩
    have HNX:Hid ((sx+p1*q2=oR (fun x=>x.1.x*x.2.y) ((cC l).take (k+1)))/\sy+q1*p2=oR (fun x=>x.2.x*x.1.y) ((cC l).take (k+1))):=by
     rw[HED.out,rT,rT,<-hs.out.1,<-hs.out.2];exact⟨rfl,rfl⟩
    clear hs HED;go_wp2;refine jU (aB wr) (by kernel_rfl) 11 rfl ?_;apply aY (i:=0);exact rfl;exact rfl;kernel_rfl;(intro W hW;(try clear hW);go_simp;with_reducible rfl);try simp only[Act.put,sA,sZ,sS]
    apply aY (i:=1);exact rfl;exact rfl;kernel_rfl;(intro W hW;(try clear hW);go_simp;with_reducible rfl);try simp only[Act.put,sA,sZ,sS]
    apply aY (i:=2);exact rfl;exact rfl;kernel_rfl;(intro W hW;(try clear hW);go_simp;with_reducible rfl);try simp only[Act.put,sA,sZ,sS]
    apply aY (i:=3);exact rfl;exact rfl;kernel_rfl;(intro W hW;obtain⟨y1,y2⟩:=C1.out W hW;(try clear hW);go_simp;with_reducible rfl);try simp only[Act.put,sA,sZ,sS]
    apply aY (i:=4);exact rfl;exact rfl;kernel_rfl;(intro W hW;(try clear hW);go_simp;with_reducible rfl);try simp only[Act.put,sA,sZ,sS]
    apply aY (i:=5);exact rfl;exact rfl;kernel_rfl;(intro W hW;(try clear hW);go_simp;with_reducible rfl);try simp only[Act.put,sA,sZ,sS]
    apply aY (i:=6);exact rfl;exact rfl;kernel_rfl;(intro W hW;obtain⟨y1,y2⟩:=C2.out W hW;(try clear hW);go_simp;with_reducible rfl);try simp only[Act.put,sA,sZ,sS]
    refine dC (rs:=[7,8]) (by intro c a d v w h;cases d<;>exact h) (aB.refl _).dr (by kernel_rfl) rfl ?_;intro i hi;rcases List.mem_cons.1 hi with rfl|hi
    ·clear hi
     apply bW;exact rfl;exact rfl;intro K hK;go_simp;refine hK.out _ _ ?_;clear hK;try simp only[Act.put,sA,sZ,sS]
     refine dC (rs:=[8]) (by intro c a d v w h;cases d<;>exact h) (((aB.refl wr).al _).dr) (by kernel_rfl) rfl ?_;intro i hi;obtain rfl:=List.mem_singleton.1 hi;clear hi;apply bW;exact rfl;exact rfl;intro K hK;go_simp;refine hK.out _ _ ?_;clear hK;try simp only[Act.put,sA,sZ,sS]
     refine dC (rs:=[9]) (by intro c a d v w h;cases d<;>exact h) ((((aB.refl wr).al _).al _).dr) (by kernel_rfl) rfl ?_;intro i hi;obtain rfl:=List.mem_singleton.1 hi;clear hi;apply bW;exact rfl;exact rfl;intro K hK;go_simp;refine hK.out _ _ ?_;clear hK;try simp only[Act.put,sA,sZ,sS]
     refine dC (rs:=[10]) (by intro c a d v w h;cases d<;>exact h) ((((aB.refl wr).al _).al _).dr) (by kernel_rfl) rfl ?_;intro i hi;obtain rfl:=List.mem_singleton.1 hi;clear hi;apply bW;exact rfl;exact rfl;intro K hK;go_simp;refine hK.out _ _ ?_;clear hK;try simp only[Act.put,sA,sZ,sS]
     refine gZ (by intro c a d v w h;cases d<;>exact h) ((((aB.refl wr).al _).al _).dr) (by kernel_rfl) ?_
     have HB7:Hid ((((wr.alloc (.cells #[.int .i64 p1,.int .i64 p2] 51)).alloc (.cells #[.int .i64 z1,.int .i64 z2] 51)).drew).heap[wr.heap.size]? =some (.cells #[.int .i64 p1,.int .i64 p2] 51 (0,0))):=(lJ (heap_alloc_new _ _) _)
     have HB8:Hid ((((wr.alloc (.cells #[.int .i64 p1,.int .i64 p2] 51)).alloc (.cells #[.int .i64 z1,.int .i64 z2] 51)).drew).heap[(wr.heap.size+1)]? =some (.cells #[.int .i64 z1,.int .i64 z2] 51 (0,0))):=(by have:=heap_alloc_new (wr.alloc (.cells #[.int .i64 p1,.int .i64 p2] 51)) (.cells #[.int .i64 z1,.int .i64 z2] 51);rw[World.size_alloc] at this;exact this)
     have GW:Hid (aB wr (((wr.alloc (.cells #[.int .i64 p1,.int .i64 p2] 51)).alloc (.cells #[.int .i64 z1,.int .i64 z2] 51)).drew)):=(((aB.refl wr).al _).al _).dr;generalize ((wr.alloc (.cells #[.int .i64 p1,.int .i64 p2] 51)).alloc (.cells #[.int .i64 z1,.int .i64 z2] 51)).drew=W at*
     by_cases h1:k+1<l.length
     ·obtain⟨r1,r2⟩:=C3.out h1 W GW.out
      have n1:=cell_of_row W (wr.heap.size+1) 0 _ _ (0,0) HB8.out;have n2:=cell_of_row W (wr.heap.size+1) 1 _ _ (0,0) HB8.out;have n3:=frozen_of_row W (wr.heap.size+1) 0 _ _ HB8.out;have n4:=frozen_of_row W (wr.heap.size+1) 1 _ _ HB8.out;have B8':=kT (kT HB8.out 0 (.int .i64 q1)) 1 (.int .i64 q2);have B7':=iT (iT HB7.out (C:=(wr.heap.size+1)) (by omega) 0 (.int .i64 q1)) (C:=(wr.heap.size+1)) (by omega) 1 (.int .i64 q2);have o1:=cell_of_row _ (wr.heap.size+1) 0 _ _ (0,0) B8'
      have o2:=cell_of_row _ (wr.heap.size+1) 1 _ _ (0,0) B8';have o3:=cell_of_row _ wr.heap.size 0 _ _ (0,0) B7';have o4:=cell_of_row _ wr.heap.size 1 _ _ (0,0) B7';clear B8' B7';go_wp2;go_roundw
      case rel=>exact⟨k+1,sx+p1*q2,sy+q1*p2,by omega,by go_num,rfl,rfl,HNX.out,by omega,by omega,hg.out.tr ((GW.out.set (p:=⟨(wr.heap.size+1),0,none⟩) (by show _<=(wr.heap.size+1);omega) _).set (p:=⟨(wr.heap.size+1),1,none⟩) (by show _<=(wr.heap.size+1);omega) _)⟩
      case measure=>simp[intOf];omega
     ·obtain⟨rfl,rfl⟩:=HZ.out h1
      have o1:=cell_of_row W (wr.heap.size+1) 0 _ _ (0,0) HB8.out;have o2:=cell_of_row W (wr.heap.size+1) 1 _ _ (0,0) HB8.out;have o3:=cell_of_row W wr.heap.size 0 _ _ (0,0) HB7.out;have o4:=cell_of_row W wr.heap.size 1 _ _ (0,0) HB7.out;go_wp2;go_roundw
      case rel=>exact⟨k+1,sx+p1*z2,sy+z1*p2,by omega,by go_num,rfl,rfl,HNX.out,by omega,by omega,hg.out.tr GW.out⟩
      case measure=>simp[intOf];omega
    ·obtain rfl:=List.mem_singleton.1 hi
     clear hi;apply bW;exact rfl;exact rfl;intro K hK;go_simp;refine hK.out _ _ ?_;clear hK;try simp only[Act.put,sA,sZ,sS]
     refine dC (rs:=[7]) (by intro c a d v w h;cases d<;>exact h) (((aB.refl wr).al _).dr) (by kernel_rfl) rfl ?_;intro i hi;obtain rfl:=List.mem_singleton.1 hi;clear hi;apply bW;exact rfl;exact rfl;intro K hK;go_simp;refine hK.out _ _ ?_;clear hK;try simp only[Act.put,sA,sZ,sS]
     refine dC (rs:=[9]) (by intro c a d v w h;cases d<;>exact h) ((((aB.refl wr).al _).al _).dr) (by kernel_rfl) rfl ?_;intro i hi;obtain rfl:=List.mem_singleton.1 hi;clear hi;apply bW;exact rfl;exact rfl;intro K hK;go_simp;refine hK.out _ _ ?_;clear hK;try simp only[Act.put,sA,sZ,sS]
     refine dC (rs:=[10]) (by intro c a d v w h;cases d<;>exact h) ((((aB.refl wr).al _).al _).dr) (by kernel_rfl) rfl ?_;intro i hi;obtain rfl:=List.mem_singleton.1 hi;clear hi;apply bW;exact rfl;exact rfl;intro K hK;go_simp;refine hK.out _ _ ?_;clear hK;try simp only[Act.put,sA,sZ,sS]
     refine gZ (by intro c a d v w h;cases d<;>exact h) ((((aB.refl wr).al _).al _).dr) (by kernel_rfl) ?_
     have HB7:Hid ((((wr.alloc (.cells #[.int .i64 z1,.int .i64 z2] 51)).alloc (.cells #[.int .i64 p1,.int .i64 p2] 51)).drew).heap[(wr.heap.size+1)]? =some (.cells #[.int .i64 p1,.int .i64 p2] 51 (0,0))):=(by have:=heap_alloc_new (wr.alloc (.cells #[.int .i64 z1,.int .i64 z2] 51)) (.cells #[.int .i64 p1,.int .i64 p2] 51);rw[World.size_alloc] at this;exact this)
     have HB8:Hid ((((wr.alloc (.cells #[.int .i64 z1,.int .i64 z2] 51)).alloc (.cells #[.int .i64 p1,.int .i64 p2] 51)).drew).heap[wr.heap.size]? =some (.cells #[.int .i64 z1,.int .i64 z2] 51 (0,0))):=(lJ (heap_alloc_new _ _) _)
     have GW:Hid (aB wr (((wr.alloc (.cells #[.int .i64 z1,.int .i64 z2] 51)).alloc (.cells #[.int .i64 p1,.int .i64 p2] 51)).drew)):=(((aB.refl wr).al _).al _).dr;generalize ((wr.alloc (.cells #[.int .i64 z1,.int .i64 z2] 51)).alloc (.cells #[.int .i64 p1,.int .i64 p2] 51)).drew=W at*
     by_cases h1:k+1<l.length
     ·obtain⟨r1,r2⟩:=C3.out h1 W GW.out
      have n1:=cell_of_row W wr.heap.size 0 _ _ (0,0) HB8.out;have n2:=cell_of_row W wr.heap.size 1 _ _ (0,0) HB8.out;have n3:=frozen_of_row W wr.heap.size 0 _ _ HB8.out;have n4:=frozen_of_row W wr.heap.size 1 _ _ HB8.out;have B8':=kT (kT HB8.out 0 (.int .i64 q1)) 1 (.int .i64 q2);have B7':=iT (iT HB7.out (C:=wr.heap.size) (by omega) 0 (.int .i64 q1)) (C:=wr.heap.size) (by omega) 1 (.int .i64 q2);have o1:=cell_of_row _ wr.heap.size 0 _ _ (0,0) B8';have o2:=cell_of_row _ wr.heap.size 1 _ _ (0,0) B8'
      have o3:=cell_of_row _ (wr.heap.size+1) 0 _ _ (0,0) B7';have o4:=cell_of_row _ (wr.heap.size+1) 1 _ _ (0,0) B7';clear B8' B7';go_wp2;go_roundw
      case rel=>exact⟨k+1,sx+p1*q2,sy+q1*p2,by omega,by go_num,rfl,rfl,HNX.out,by omega,by omega,hg.out.tr ((GW.out.set (p:=⟨wr.heap.size,0,none⟩) (by show _<=wr.heap.size;omega) _).set (p:=⟨wr.heap.size,1,none⟩) (by show _<=wr.heap.size;omega) _)⟩
      case measure=>simp[intOf];omega
     ·obtain⟨rfl,rfl⟩:=HZ.out h1
      have o1:=cell_of_row W wr.heap.size 0 _ _ (0,0) HB8.out;have o2:=cell_of_row W wr.heap.size 1 _ _ (0,0) HB8.out;have o3:=cell_of_row W (wr.heap.size+1) 0 _ _ (0,0) HB7.out;have o4:=cell_of_row W (wr.heap.size+1) 1 _ _ (0,0) HB7.out;go_wp2;go_roundw
      case rel=>exact⟨k+1,sx+p1*z2,sy+z1*p2,by omega,by go_num,rfl,rfl,HNX.out,by omega,by omega,hg.out.tr GW.out⟩
      case measure=>simp[intOf];omega
   ·obtain rfl:k=l.length:=by omega
    have hs2:=hs.out;rw[List.take_of_length_le (by rw[eL];exact Nat.le_refl _)] at hs2;have HS:=Lh hs2;clear hs2 hs k4;go_wp2;have h:=HR.out _ hg.out;rw[rF,xR,<-HS.out.1,<-HS.out.2] at h;exact h
end Go.Proofs.YtjalimkajcjapaaGreatDoor
namespace Go.Proofs.YtjalimkajcjapaaGreatDoor
set_option maxRecDepth 100000
open Go.RowKit B
set_option maxHeartbeats 1000000 in
theorem nO (l:List Pt)(v:Value)(S:Nat->Prop)(w:World)(hb:Rd w S 2 v l.length (Pts l)){R:Ending->World->Prop}
  (hR:∀ w',aB w w'->R (.returned (.int .i64 (dM (bP l)))) w'):
  Calls Tryz.prog 68 #[v] w R:=by
 have HR:=Lh hR;have HA:=Lh fun (R:Ending->World->Prop) hR=>rarea_any l v S w hb (R:=R) hR
 clear hR hb;generalize bP l=n at*;generalize cQ l=b at*;have HR2:Hid (∀ k w',dM n=k->aB w w'->R (.returned (.int .i64 k)) w'):=by rintro k w' rfl h;exact HR.out w' h
 clear HR
 by_cases h1:n<0
 ·go_enter Tryz.func68,Tryz.ntmps68
  go_wp2_with (go_at_call 99;refine HA.out _ ?_;intro w1 hg1)
  exact HR2.out _ _ (by unfold dM;rw[if_pos h1]) hg1
 ·by_cases h2:0<n
  ·go_enter Tryz.func68,Tryz.ntmps68
   go_wp2_with (go_at_call 99;refine HA.out _ ?_;intro w1 hg1)
   exact HR2.out _ _ (by unfold dM;rw[if_neg (by omega),if_pos (by omega)]) hg1
  ·go_enter Tryz.func68,Tryz.ntmps68
   go_wp2_with (go_at_call 99;refine HA.out _ ?_;intro w1 hg1)
   exact HR2.out _ _ (by unfold dM;rw[if_neg (by omega),if_neg (by omega)]) hg1
end Go.Proofs.YtjalimkajcjapaaGreatDoor
namespace Go.Proofs.YtjalimkajcjapaaGreatDoor
set_option maxRecDepth 100000
open Go.RowKit Go.Shelf
attribute [local go_sem] Oper.semAt_some
end Go.Proofs.YtjalimkajcjapaaGreatDoor
namespace Go.Proofs.YtjalimkajcjapaaGreatDoor
set_option maxRecDepth 100000
open Go.RowKit B
end Go.Proofs.YtjalimkajcjapaaGreatDoor
namespace Go.Proofs.YtjalimkajcjapaaGreatDoor
set_option maxRecDepth 100000
open Go.RowKit B
theorem qV:jT Tryz.prog 65 3 (.int .i64 0) 1 8:=⟨by kernel_rfl,by kernel_rfl,rfl,by decide,by decide⟩
theorem pE:jT Tryz.prog 70 65 (.slice none 0 0) 1 24:=⟨by kernel_rfl,by kernel_rfl,rfl,by decide,by decide⟩
theorem sgnI_bd (n:Int):-1<=dM n/\dM n<=1:=by unfold dM;split<;>(try split)<;>omega
def eB (ps:List aI)(k:Nat):Int:=dM (bP ((ps.map aI.l).getD k []))
set_option maxHeartbeats 8000000 in
theorem groups_any (ps:List aI)(a:Value)(S S':Nat->Prop)(w:World)(ha:Rd w S 1 a ps.length (ps.map aI.v))(hA:∀ r∈ps,r.rd w S')(hl:ps.length<=1000){R:Ending->World->Prop}
  (hR:∀ s rows w',Grp w' w.heap.size s rows.length rows->rows.map cE.l=(aX (eB ps) ps.length).1->aB w w'->R (.returned (.tuple #[s,.bool (decide (0<rows.length))])) w'):
  Calls Tryz.prog 31 #[a] w R:=by
 have HR:=Lh hR;clear hR;have ha:=ha.lt (by decide);have HA0:=Lh ha;have HA:=Lh hA;clear hA;obtain⟨_,A,c,rfl,h1,h2,h3,h4⟩:=ha;unfold maxLen at h2;go_enter Tryz.func31,Tryz.ntmps31
 go_wp2
 go_loopw [12,4,5] (fun i s f wr=>∃ (k m c:Nat) (A:Option Addr) (rows:List cE) (fi:Int),k<=ps.length/\i=.int .i64 k/\m<=k/\Hid (m=rows.length)/\s=.slice A m c/\f=.int .i64 fi/\(-1<=fi/\fi<=1)/\Hid (Grp wr w.heap.size (.slice A m c) m rows)/\Hid (aX (eB ps) k=(rows.map cE.l,fi))/\Hid (∀ r∈rows,r.l.length<=k)/\Hid (aB w wr)) (fun i _ _ _=>ps.length-(intOf i).toNat)
 case atStart=>exact⟨0,0,0,none,[],0,Nat.zero_le _,rfl,Nat.le_refl _,rfl,rfl,rfl,by omega,Grp.nil _ _,rfl,fun r hr=>by simp at hr,aB.refl _⟩
 case round=>
  obtain⟨k,m,cc,AA,rows,fi,hk,rfl,hmk,hm,rfl,rfl,hfi,hgr,hga,hrl,hg⟩:=hrel
  by_cases hlt:k<ps.length
  ·obtain⟨b,o,rfl,-,-⟩:=h4 (by omega)
   have c1:wr.cell? ⟨b,o+k,none⟩=some (ps[k]'hlt).v:=by
    have:=bH hg.out HA0.out rfl (i:=k) (by simpa using hlt);rw[List.getElem_map] at this;exact this
   have r1:=HA.out (ps[k]'hlt) (List.getElem_mem hlt)
   have SG:Hid (eB ps k=dM (bP (ps[k]'hlt).l)):=by
    show _=_;simp[eB,hlt]
   have GS:Hid (aX (eB ps) (k+1)=jW (rows.map cE.l,fi) k (eB ps k)):=by
    show _=_;rw[aX,hga.out]
   have NE:Hid (fi≠0->rows≠[]):=by
    intro h e;have:=kO (eB ps) k;rw[hga.out,e] at this;exact this h rfl
   clear h3 h4 hga;generalize ps[k]'hlt=p at*;obtain⟨v,l⟩:=p;dsimp only at*;unfold aI.rd at r1;dsimp only at r1;have r1:=Lh (r1.gr2 (by decide) hg.out);have bs:=sgnI_bd (bP l);have HS:=Lh fun (R:Ending->World->Prop) hR=>iU l v _ wr r1.out (R:=R) hR
   rw[<-SG.out] at HS bs;obtain⟨_,A2,c2,rfl,x1,x2,x3,-⟩:=r1.out;unfold maxLen at x2;generalize eB ps k=s at*;clear r1 SG;go_wp2_with fail
   clear c1;refine HS.out _ ?_;intro w1 hg1;have G1:=Lh (hg.out.tr hg1);have GR1:=Lh (hgr.out.grow hg1);clear hg1 hgr HS;have ST:Hid (∀ st,jW (rows.map cE.l,fi) k s=st->aX (eB ps) (k+1)=st):=by rintro st rfl;exact GS.out
   clear GS
   by_cases hs0:s=0
   ·have ST:=Lh (ST.out (rows.map cE.l,fi) (by rw[jW,if_pos hs0]))
    have t1:(s==0)=true:=by simp[hs0]
    clear NE;go_wp2;go_roundw
    case rel=>exact⟨k+1,m,cc,AA,rows,fi,by omega,by go_num,by omega,hm.out,rfl,rfl,hfi,GR1.out,ST.out,fun r hr=>Nat.le_succ_of_le (hrl.out r hr),G1.out⟩
    case measure=>simp[intOf];omega
   ·have t1:(s==0)=false:=by simp[hs0]
    have ST2:=ST.out;rw[jW,if_neg hs0] at ST2;clear ST
    by_cases hf0:fi=0
    ·have t2:(fi==0)=true:=by simp[hf0]
     have ST3:Hid (∀ st,(rows.map cE.l++[[k]],s)=st->aX (eB ps) (k+1)=st):=by
      intro st h;refine ST2 st ?_;rw[if_pos hf0];exact h
     clear ST2 NE;go_wp2_with (at_builtin;refine aM rfl _ _ rfl pE (aJ GR1.out.out ((aB.refl _).al _)) rfl 1 _ (World.size_alloc _ _) _ rfl (by decide) rfl (by simp[Value.oneCell']) (by omega) (G1.out.al _) ⟨Nat.le_refl _,(G1.out.al _).size⟩ ?_;intro v1 w4 hown4 hg4 hgr4 hb4;have GR4:=Lh (GR1.out.app G1.out.size hown4 hgr4 hb4);have G4:=Lh hg4;obtain⟨A5,c5,rfl⟩:=aH hown4;clear hown4 hg4 hgr4 hb4)
     go_roundw
     case rel=>
      refine⟨k+1,m+1,c5,A5,_,s,by omega,by go_num,by omega,?_,rfl,rfl,by omega,GR4.out,?_,?_,G4.out⟩
      ·show _=_
       rw[List.length_append,<-hm.out];rfl
      ·refine ST3.out _ ?_
       rw[List.map_append];rfl
      ·intro r hr
       rcases List.mem_append.1 hr with hr|hr
       ·exact Nat.le_succ_of_le (hrl.out r hr)
       ·rw[List.mem_singleton.1 hr];simp
     case measure=>simp[intOf];omega
    ·have t2:(fi==0)=false:=by simp[hf0]
     rw[if_neg hf0] at ST2
     by_cases hsf:s=fi
     ·have t3:(s==fi)=true:=by simp[hsf]
      have ST3:Hid (∀ st,(rows.map cE.l++[[k]],fi)=st->aX (eB ps) (k+1)=st):=by
       intro st h;refine ST2 st ?_;rw[if_pos hsf];exact h
      clear ST2 NE;go_wp2_with (at_builtin;refine aM rfl _ _ rfl pE (aJ GR1.out.out ((aB.refl _).al _)) rfl 1 _ (World.size_alloc _ _) _ rfl (by decide) rfl (by simp[Value.oneCell']) (by omega) (G1.out.al _) ⟨Nat.le_refl _,(G1.out.al _).size⟩ ?_;intro v1 w4 hown4 hg4 hgr4 hb4;have GR4:=Lh (GR1.out.app G1.out.size hown4 hgr4 hb4);have G4:=Lh hg4;obtain⟨A5,c5,rfl⟩:=aH hown4;clear hown4 hg4 hgr4 hb4)
      go_roundw
      case rel=>
       refine⟨k+1,m+1,c5,A5,_,fi,by omega,by go_num,by omega,?_,rfl,rfl,by omega,GR4.out,?_,?_,G4.out⟩
       ·show _=_
        rw[List.length_append,<-hm.out];rfl
       ·refine ST3.out _ ?_
        rw[List.map_append];rfl
       ·intro r hr
        rcases List.mem_append.1 hr with hr|hr
        ·exact Nat.le_succ_of_le (hrl.out r hr)
        ·rw[List.mem_singleton.1 hr];simp
      case measure=>simp[intOf];omega
     ·have t3:(s==fi)=false:=by simp[hsf]
      have ST3:Hid (∀ st,(dE (rows.map cE.l) k,fi)=st->aX (eB ps) (k+1)=st):=by
       intro st h;refine ST2 st ?_;rw[if_neg hsf];exact h
      have hne:=NE.out hf0;clear ST2 NE
      obtain⟨init,r,rfl⟩:∃ init r,rows=init++[r]:=by
       rcases List.eq_nil_or_concat rows with rfl|⟨i,r,rfl⟩
       ·exact absurd rfl hne
       ·exact⟨i,r,List.concat_eq_append⟩
      have hm2:m=init.length+1:=by have:=hm.out;simpa using this
      have HM:=Lh hm2;obtain⟨g,c6,e6⟩:=qC GR1.out.out (by omega);injection e6 with e6 _ e7
      subst e6 e7;have hmem:r∈init++[r]:=List.mem_append.2 (.inr (List.mem_singleton.2 rfl));have HE:=Lh (GR1.out.each r hmem);have hrb:=hrl.out r hmem
      have cl:w1.cell? ⟨g,init.length,none⟩=some r.v:=by
       have:=bH (aB.refl w1) (Rd.own GR1.out.out) rfl (i:=init.length) (by simp);rw[Nat.zero_add] at this;rw[this];simp
      obtain⟨A7,c7,e7⟩:=aH HE.out.1;obtain⟨rv,rl⟩:=r;dsimp only at e7 HE cl hrb;subst e7;clear hne hmem;subst hm2;have GH:Hid (w1.ownsRow w.heap.size 65 1 (.slice (some ⟨g,0,none⟩) (init.length+1) cc) (init.length+1) ((init++[(⟨.slice A7 rl.length c7,rl⟩:cE)]).map cE.v)):=GR1.out.out
      go_wp2_with (at_builtin;refine bJ rfl _ _ rfl qV HE.out.1 rfl 1 _ rfl (by decide) rfl (by simp[Value.oneCell']) (by omega) G1.out ⟨Nat.le_refl _,G1.out.size⟩ ?_;intro v4 w4 hown4 hg4 hgr4 hb4;have GRL:=Lh (GR1.out.last rfl hown4 hgr4 hb4);have G4:=Lh hg4;have o4:=GH.out.kept hgr4 (.inr (fun e=>HE.out.2.2 e.symm));have f4:=wG o4 init.length;have d4:w4.cell? ⟨g,init.length,none⟩=some (.slice A7 rl.length c7):=(by have:=bH (aB.refl w4) (Rd.own o4) rfl (i:=init.length) (by simp);rw[Nat.zero_add] at this;rw[this];simp);obtain⟨A8,c8,rfl⟩:=aH hown4;clear hown4 hg4 hgr4 hb4 o4 cl)
      go_roundw
      case rel=>
       refine⟨k+1,init.length+1,cc,some ⟨g,0,none⟩,init++[cE.mk (.slice A8 (rl.length+1) c8) (rl++[k])],fi,by omega,by go_num,by omega,?_,rfl,rfl,by omega,GRL.out,?_,?_,G4.out.set (p:=⟨g,init.length,none⟩) ((GH.out.lt g rfl).1) _⟩
       ·show _=_
        simp
       ·refine ST3.out _ ?_
        rw[List.map_append,List.map_append];show (dE (init.map cE.l++[rl]) k,fi)=(init.map cE.l++[rl++[k]],fi);rw[dY]
       ·intro r hr
        rcases List.mem_append.1 hr with hr|hr
        ·exact Nat.le_succ_of_le (hrl.out r (List.mem_append.2 (.inl hr)))
        ·rw[List.mem_singleton.1 hr,List.length_append];simpa using hrb
      case measure=>simp[intOf];omega
  ·obtain rfl:k=ps.length:=by omega
   have hm':=hm.out;subst hm';go_wp2;refine HR.out _ rows _ hgr.out ?_ hg.out;rw[hga.out]
end Go.Proofs.YtjalimkajcjapaaGreatDoor
