import Derived.StillTailTactics
import Derived.OrdersIn
import Derived.TacticsIn
import Derived.RangeFuncNested
import Derived.RangeFuncBound
import Derived.RangeFuncCalls
import Derived.RangeFuncLeaves
import Derived.Shelf.Abstract
import Derived.Shelf.RegionOpen
import Derived.OwnWalkIn
import Derived.TacticsInMore
import Derived.LoopNIn
import Derived.LoopIn
import Derived.Test.YtjalimkajcjapaaGreatDoorRngA
namespace Go.Proofs.YtjalimkajcjapaaGreatDoor
set_option maxRecDepth 100000
section
variable {n : Nat} {P : Program} {ops : Array Oper} {Q : Exit -> Act -> World -> Prop} {w : World}
theorem pH {i:Nat}{a:Act}{K:Act->Prop}{K':Act->World->Prop}(h:∀ a,K a->K' a w)(hh:stOp P ops w i K a):wpOpIn Fence.wide n P ops Q i K' a w:=by
 unfold stOp at hh;unfold wpOpIn
 cases ho:ops[i]? with
 |none=>simp only[ho] at hh ⊢;exact h _ hh
 |some o=>
  simp only[ho] at hh ⊢
  split
  ·rename_i hw
   simp only[hw,if_true] at hh;unfold Oper.still at hh;unfold Oper.wpIn;refine⟨fun _ _=>trivial,?_⟩;rw[show Fence.wide.round=none from rfl,Oper.semAt_none];generalize (execOp a.eval o).run P w=r at*
   cases r with
   |ok x w'=>
    cases x<;>simp only[Oper.stillUpon] at hh<;>simp only[Oper.uponIn]
    case value v=>obtain⟨rfl,h2⟩:=hh;exact h _ h2
    case skip=>obtain⟨rfl,h2⟩:=hh;exact h _ h2
    case enter f args=>
     obtain⟨rfl,v,hc,hn⟩:=hh;refine⟨fun _=>by simp[Fence.wide] at*,callsIn_wide.2 (hc.mono fun e w'' ⟨he,hw2⟩=>?_)⟩;subst he hw2;exact h _ hn
   |halt x w'=>simp only[Oper.stillUpon] at hh
  ·rename_i hw
   simp only[hw] at hh;exact⟨fun _ _=>trivial,h _ hh⟩
theorem jV {m g:Nat}{L:Array Bool->Act->Prop}(hL:∀ listed a,L listed a->wpAnyIn Fence.wide n P .any ops Q g listed a w):
  ∀ (f:Nat) (listed:Array Bool) (a:Act),wpAnyL P .any ops w m L f listed a->wpAnyIn Fence.wide n P .any ops Q (f+g) listed a w
 |0,listed,a,h=>by rw[Nat.zero_add];exact hL _ _ h
 |f+1,listed,a,h=>by
  rw[show f+1+g=(f+g)+1 by omega];exact⟨fun h0=>absurd h0 h.1,fun i hi=>pH (fun a' h'=>jV hL f _ a' h') (h.2 i hi).2⟩
theorem kG {F:Fence}:∀ (l:List Oper) (k:Nat) (listed:Array Bool) (a:Act) (w:World),(∀ j,l[j]? =ops[k+j]?)->
  Region.seqB .any ops l.length k listed=true->wpListIn F n P ops Q l a w->wpAnyIn F n P .any ops Q l.length listed a w
 |[],_,_,_,_,_,hB,h=>⟨by simpa [Region.seqB] using hB,h⟩
 |o::l,k,listed,a,w,hl,hB,h=>by
  have h0:ops[k]? =some o:=by simpa using (hl 0).symm
  simp only[List.length_cons,Region.seqB,Bool.and_eq_true,decide_eq_true_eq] at hB;refine⟨fun h1=>(by rw[hB.1] at h1;cases h1),fun i hi=>?_⟩;rw[hB.1] at hi;have hik:i=k:=by simpa using hi
  subst hik;have hw:wpOpIn F n P ops Q i (wpListIn F n P ops Q l) a w:=by unfold wpOpIn;simp only[h0];exact h
  exact wpOpIn_mono (fun a' w' h'=>kG l (i+1) _ a' w' (fun j=>by have:=hl (j+1);simpa [Nat.add_assoc,Nat.add_comm 1 j] using this) hB.2 h') hw
theorem jJ {id:Nat}{a:Act}{w:World}{l:List Oper}(m:Nat)(hm:P.follows .mixedOrders=true)(hB:Region.lexTailB .any l.toArray m=true)
  (h:wpStill P l.toArray w.drew (fun a'=>wpListIn Fence.wide n P l.toArray Q (l.drop m) a' w.drew) (l.take m) a):(Code.region id l.toArray true).wpIn Fence.wide n P Q a w:=by
 simp only[Region.lexTailB,Bool.and_eq_true,decide_eq_true_eq] at hB;obtain⟨⟨⟨⟨hsel,hn⟩,hs⟩,hc⟩,hlex⟩:=hB;have hn':m<l.length:=by simpa using hn
 have htl:(l.take m).length=m:=by simp;omega
 have hdl:(l.drop m).length=l.toArray.size-m:=by simp
 have inv0:HeadInv .any l.toArray m (Array.replicate l.toArray.size false):=
  ⟨by simp,fun j oj _ hl=>(by rw[getD_replicate_false] at hl;cases hl),fun t _ ht=>getD_in (by simpa using ht) (getD_replicate_false _ _)⟩
 have H:=wpAnyL_lex (md:=.any) (g:=l.toArray.size-m) hsel hs hc hn (l.take m) 0 _ a (fun j hj=>by
  have hj':j<m:=by rw[htl] at hj;exact hj
  simp[hj']) (by simpa using htl) inv0 (by rw[htl];exact hlex) h
 refine wpIn_region_any hm ?_
 have:=jV (n:=n) (Q:=Q) (g:=l.toArray.size-m) (fun listed a' hL=>by
  have:=kG (F:=Fence.wide) (n:=n) (Q:=Q) (l.drop m) m listed a' {w with drawn:=w.drawn+1} (fun j=>by simp[List.getElem?_drop]) (by rw[hdl];exact hL.1) hL.2
  rwa[hdl] at this) _ _ _ H
 rw[htl,show m+(l.toArray.size-m)=l.toArray.size by omega] at this;exact this
end
end Go.Proofs.YtjalimkajcjapaaGreatDoor
namespace Go.Proofs.YtjalimkajcjapaaGreatDoor
set_option maxRecDepth 100000
open Go.RowKit Go.Shelf
attribute [local go_sem] Oper.semAt_some
theorem xU {β:Type}{B:Nat}{J:β->World->Prop}(h:AbidesFrom B J){s:β}{W W':World}(hs:J s W)(hg:aB W W'):J s W':=
 h s W W' none hs ⟨hg.os,hg.tape,hg.output,hg.size,fun k hk _=>hg.block k hk⟩ (fun r e=>by cases e)
def cC (l:List Pt):List (Pt×Pt):=(List.range l.length).map fun i=>(l.getD i ⟨0,0⟩,l.getD ((i+1)%l.length) ⟨0,0⟩)
theorem eL (l:List Pt):(cC l).length=l.length:=by simp[cC]
theorem jG {l:List Pt}{i:Nat}(hi:i<l.length):(cC l)[i]'(by rw[eL];exact hi)=(l[i],l[(i+1)%l.length]'(Nat.mod_lt _ (by omega))):=by
 have h2:(i+1)%l.length<l.length:=Nat.mod_lt _ (by omega);simp[cC,hi,h2]
def encPP (x:Pt×Pt):Array Value:=#[.agg x.1.cells.toArray,.agg x.2.cells.toArray]
def KpE (n₀ Bn:Nat)(W W':World):Prop:=Below n₀ W W'/\W'.heap[Bn]? =W.heap[Bn]?
set_option maxHeartbeats 4000000 in
theorem edges1_in (n:Nat)(lY Bn n₀:Nat)(v:Value)(l:List Pt)(J Jx:List (Pt×Pt)->World->Prop)
  (hY:∀ pre x W,J pre W->pre.length<l.length->pre++[x] <+: cC l->YieldAt Fence.wide (n-1) Tryz.prog lY (encPP x) W fun e W'=>
   (e=.returned (.bool true)/\J (pre++[x]) W'/\KpE n₀ Bn W W')∨(e=.returned (.bool false)/\Jx (pre++[x]) W'))
  (W:World) (hJ:AbidesFrom W.heap.size J) (hBn:W.heap[Bn]? =some (.cells #[v] 58 (0,0))) (hL:Rd W (·<n₀) 2 v l.length (Pts l)) (hn0:n₀<=W.heap.size) (h0:J [] W):
  CallsIn Fence.wide n Tryz.prog 102 #[.func (.yield lY) #[] #[],.pointer (some ⟨Bn,0,none⟩)] W fun e W'=>(∃ v,e=.returned v)/\
   ((∃ ys,ys=cC l/\J ys W')∨(∃ pre,pre <+: cC l/\Jx pre W')):=by
 refine callsIn_of_wp Tryz.func102 rfl trivial ?_ rfl;have HJ:=Lh hJ;have HY:=Lh hY;have HL:=Lh hL;clear hJ hY;obtain⟨_,A,c,rfl,k1,k2,-,-⟩:=hL;unfold maxLen at k2;have cB:=cell_of_one hBn;have HB:=Lh hBn;have HBL:=Lh (lt_of_block hBn);clear hBn;simp only[Tryz.ntmps102,List.size_toArray,List.length_cons,List.length_nil,Nat.reduceAdd,Nat.reduceSub,Array.replicate_succ,Array.replicate_zero,List.push_toArray,List.append_toArray,List.nil_append,List.cons_append]
 gi_wp2
 clear cB
 gi_loopw [7] (fun i wr=>∃ k:Nat,k<=l.length/\i=.int .i64 k/\Hid (J ((cC l).take k) wr)/\Hid (wr.heap[Bn]? =some (.cells #[.slice A l.length c] 58 (0,0)))/\Hid (Rd wr (·<n₀) 2 (.slice A l.length c) l.length (Pts l))/\Hid (W.heap.size<=wr.heap.size)) (fun i _=>l.length-(intOf i).toNat)
 case atStart=>exact⟨0,Nat.zero_le _,rfl,h0,HB.out,HL.out,Nat.le_refl _⟩
 case round=>
  obtain⟨k,hk,rfl,hj,hb,hr,hs⟩:=hrel
  by_cases hlt:k<l.length
  ·have hr2:=hr.out
   obtain⟨_,A',c',hv,_,_,_,r4⟩:=hr2;injection hv with e1 _ e2
   subst e1 e2;obtain⟨b,o,rfl,hbn,hc⟩:=r4 (by omega);have hm:(k+1)%l.length<l.length:=Nat.mod_lt _ (by omega)
   have HED:Hid ((cC l).take (k+1)=(cC l).take k++[(l[k]'hlt,l[(k+1)%l.length]'hm)]):=by
    show _=_;rw[List.take_succ_eq_append_getElem (by rw[eL];exact hlt),jG hlt]
   have LT:b<wr.heap.size:=Nat.lt_of_lt_of_le hbn (Nat.le_trans hn0 hs.out);have e1:=fun W (h:aB wr W)=>aL Pt.cells_len h LT hc hlt
   have e2:=fun W (h:aB wr W)=>aL Pt.cells_len h LT hc hm
   have w1:IntKind.i64.wrap ((k:Int)+1)=(k:Int)+1:=IntWalk.i64_in _ (by omega)
   have w2:((k:Int)+1).tmod (l.length:Int)=(((k+1)%l.length:Nat):Int):=by
    rw[Int.tmod_eq_emod_of_nonneg (by omega)];exact(Int.natCast_emod (k+1) l.length).symm
   have w3:((k:Int)+1)%(l.length:Int)=(((k+1)%l.length:Nat):Int):=(Int.natCast_emod (k+1) l.length).symm;have z1:((l.length:Int)==0)=false:=by rw[beq_eq_false_iff_ne];omega
   have z2:¬ (l.length:Int)=0:=by omega
   have z3:¬ l=[]:=by rintro rfl;simp at hlt
   clear hc r4;generalize (k+1)%l.length=m at*;generalize l[k]'hlt=p at*;generalize l[m]'hm=q at*;obtain⟨p1,p2⟩:=p;obtain⟨q1,q2⟩:=q
   have C1:Hid (∀ W,aB wr W->W.cell? ⟨b,o+k*2,none⟩=some (.int .i64 p1)/\W.cell? ⟨b,o+k*2+1,none⟩=some (.int .i64 p2)):=fun W h=>⟨e1 W h 0 _ rfl,e1 W h 1 _ rfl⟩
   have C2:Hid (∀ W,aB wr W->W.cell? ⟨b,o+m*2,none⟩=some (.int .i64 q1)/\W.cell? ⟨b,o+m*2+1,none⟩=some (.int .i64 q2)):=fun W h=>⟨e2 W h 0 _ rfl,e2 W h 1 _ rfl⟩
   clear e1 e2;have GB:aB wr (wr.alloc (.cells #[.int .i64 p1,.int .i64 p2] 51)):=(aB.refl wr).al _;obtain⟨fn,tmps,assign,body,hy,hR⟩:=HY.out ((cC l).take k) (⟨p1,p2⟩,⟨q1,q2⟩) (wr.alloc (.cells #[.int .i64 p1,.int .i64 p2] 51)).drew (xU HJ.out hj.out GB.dr) (by rw[List.length_take,eL];omega) (by have h:=List.take_prefix (k+1) (cC l);rwa[HED.out] at h);dsimp only[encPP,Pt.cells] at hy
   have HR:Hid (RoundIn Fence.wide (n-1) Tryz.prog lY fn tmps assign body (wr.alloc (.cells #[.int .i64 p1,.int .i64 p2] 51)).drew fun e W'=>∃ t:Bool,e=.returned (.bool t)/\Hid ((t=true/\J ((cC l).take (k+1)) W'/\KpE n₀ Bn (wr.alloc (.cells #[.int .i64 p1,.int .i64 p2] 51)).drew W')∨(t=false/\Jx ((cC l).take (k+1)) W'))):=by
    refine hR.mono ?_;rintro e W' (⟨rfl,h1,h2⟩|⟨rfl,h1⟩)
    ·exact⟨true,rfl,.inl ⟨rfl,by rw[HED.out];exact h1,h2⟩⟩
    ·exact⟨false,rfl,.inr ⟨rfl,by rw[HED.out];exact h1⟩⟩
   have HB2:=Lh ((GB.dr.block Bn (lt_of_block hb.out)).trans hb.out);have HL2:=Lh (hr.out.gr2 (by decide) GB.dr);have HS2:Hid (W.heap.size<=((wr.alloc (.cells #[.int .i64 p1,.int .i64 p2] 51)).drew).heap.size):=Nat.le_trans hs.out GB.dr.size;clear hR;obtain⟨y1,y2⟩:=C1.out _ (aB.refl wr);obtain⟨zz1,zz2⟩:=C2.out _ GB;have cB:(wr.alloc (.cells #[.int .i64 p1,.int .i64 p2] 51)).cell? ⟨Bn,0,none⟩=some (.slice (some ⟨b,o,none⟩) l.length c):=(GB.cell (p:=⟨Bn,0,none⟩) (lt_of_block hb.out)).trans (cell_of_one hb.out)
   gi_wp2
   refine jJ 10 (by kernel_rfl) (by kernel_rfl) ?_;simp only[List.take_succ_cons,List.take_zero,List.drop_succ_cons,List.drop_zero]
   repeat still_step
   try refine wpStill_nil ?_
   gi_wp2
   refine⟨(by simp[Fence.wide]),HR.out.mono ?_⟩;rintro e W3 ⟨t,rfl,hpost⟩
   cases t with
   |true=>
    have hp:J ((cC l).take (k+1)) W3/\KpE n₀ Bn (wr.alloc (.cells #[.int .i64 p1,.int .i64 p2] 51)).drew W3:=by
     rcases hpost.out with ⟨_,h1,h2⟩|⟨h,_⟩
     ·exact⟨h1,h2⟩
     ·cases h
    have HP:=Lh hp;clear hp hpost
    gi_wp2
    go_roundw
    case rel=>exact⟨k+1,by omega,by go_num,HP.out.1,HP.out.2.2.trans HB2.out,Rd.grow HL2.out HP.out.2.1,Nat.le_trans HS2.out HP.out.2.1.size⟩
    case measure=>simp[intOf];omega
   |false=>
    have hp:Jx ((cC l).take (k+1)) W3:=by
     rcases hpost.out with ⟨h,_⟩|⟨_,h1⟩
     ·cases h
     ·exact h1
    have HP:=Lh hp;clear hp hpost
    gi_wp2
    refine bodyPost_ret (results_none rfl _ _ _) rfl ?_;exact⟨⟨_,rfl⟩,.inr ⟨_,List.take_prefix _ _,HP.out⟩⟩
  ·obtain rfl:k=l.length:=by omega
   gi_wp2
   go_end0
   exact⟨⟨_,rfl⟩,.inl ⟨_,rfl,by have:=hj.out;rwa[List.take_of_length_le (by rw[eL];exact Nat.le_refl _)] at this⟩⟩
abbrev PP:Type:={x:Pt×Pt // x.1.x<=2097152/\-2097152<=x.1.x/\x.1.y<=2097152/\-2097152<=x.1.y/\x.2.x<=2097152/\-2097152<=x.2.x/\x.2.y<=2097152/\-2097152<=x.2.y}
def encP (x:PP):Array Value:=encPP x.1
theorem KpE.tr {n₀ Bn:Nat}{A B C:World}(h:KpE n₀ Bn A B)(k:KpE n₀ Bn B C):KpE n₀ Bn A C:=⟨h.1.trans k.1,k.2.trans h.2⟩
theorem KpE.put {n₀ Bn:Nat}{w:World}(hn:n₀<=w.heap.size)(hB:Bn<w.heap.size)(W:World)(l:Nat)(o o':Obj)(hl:w.heap.size<=l)(h:W.heap[l]? =some o)(h1:o.isCells=false)(h2:o.isWalk=false):KpE n₀ Bn W (W.putObj l o'):=
 ⟨belowK_b hn W l o o' hl h h1 h2,World.putObj_heap_other (by omega)⟩
theorem xI (n:Nat)(Bn n₀:Nat)(v:Value)(l:List Pt)(w:World)(hBn:w.heap[Bn]? =some (.cells #[v] 58 (0,0)))(hL:Rd w (·<n₀) 2 v l.length (Pts l))(hn0:n₀<=w.heap.size)
  (hin:∀ p∈l,p.x<=2097152/\-2097152<=p.x/\p.y<=2097152/\-2097152<=p.y):
  SeqStopsK Fence.wide n Tryz.prog 102 #[.pointer (some ⟨Bn,0,none⟩)] encP (KpE n₀ Bn) (fun ys=>ys.map (fun x:PP=>x.1)=cC l) (fun pre=>pre.map (fun x:PP=>x.1) <+: cC l) l.length w:=by
 intro lY J Jx W hW hJ hJx hY h0;have hB2:W.heap[Bn]? =some (.cells #[v] 58 (0,0)):=(hW.block Bn (lt_of_block hBn)).trans hBn
 have hmem:∀ x∈cC l,x.1.x<=2097152/\-2097152<=x.1.x/\x.1.y<=2097152/\-2097152<=x.1.y/\x.2.x<=2097152/\-2097152<=x.2.x/\x.2.y<=2097152/\-2097152<=x.2.y:=by
  intro x hx;obtain⟨i,hi,rfl⟩:=List.getElem_of_mem hx;rw[eL] at hi;rw[jG hi];have h1:=hin _ (List.getElem_mem hi);have h2:=hin _ (List.getElem_mem (Nat.mod_lt (i+1) (show 0<l.length by omega)));exact⟨h1.1,h1.2.1,h1.2.2.1,h1.2.2.2,h2⟩
 refine(edges1_in n lY Bn n₀ v l (fun pre W=>∃ pre':List PP,pre'.map (fun x:PP=>x.1)=pre/\J pre' W) (fun pre W=>∃ pre':List PP,pre'.map (fun x:PP=>x.1)=pre/\Jx pre' W) ?_ W ?_ hB2 (hL.gr2 (by decide) hW) (Nat.le_trans hn0 hW.size) ⟨[],rfl,h0⟩).mono ?_
 ·rintro pre x W1 ⟨pre',rfl,hj⟩ hlen hpre
  have hx:x∈cC l:=hpre.subset (by simp);refine(hY pre' ⟨x,hmem x hx⟩ W1 hj (by simpa using hlen)).mono ?_;rintro e W' (⟨h1,h2,h3⟩|⟨h1,h2⟩)
  ·exact .inl ⟨h1,⟨_,by rw[List.map_append];rfl,h2⟩,h3⟩
  ·exact .inr ⟨h1,⟨_,by rw[List.map_append];rfl,h2⟩⟩
 ·rintro s A B row ⟨pre',h1,h2⟩ hg hr
  exact⟨pre',h1,hJ _ _ _ _ h2 hg hr⟩
 ·rintro e W' ⟨h1,⟨ys,h2,pre',h3,h4⟩|⟨pre,h2,pre',h3,h4⟩⟩
  ·exact⟨h1,.inl ⟨pre',h3.trans h2,h4⟩⟩
  ·exact⟨h1,.inr ⟨pre',(show pre'.map (fun x:PP=>x.1) <+: cC l by rw[h3];exact h2),h4⟩⟩
theorem uR {β:Type}{B:Nat}{t:TypeId}(base:Nat)(cs:β->Array Value):OwnFrom base (fun (s:β) W=>W.heap[B]? =some (.cells (cs s) t (0,0))):=by
 intro s W W' row hs hg hr;refine(hg.block B (lt_of_block hs) ?_).trans hs;intro e;obtain⟨_,o,ho,hc⟩:=hr B e.symm;rw[hs] at ho
 cases ho
 cases hc
set_option maxHeartbeats 1000000 in
theorem edges_any (A:Option Addr)(m c:Nat)(w:World){R:Ending->World->Prop}(hR:R (.returned (.func (.func 102) #[] #[.pointer (some ⟨w.heap.size,0,none⟩)])) (w.alloc (.cells #[.slice A m c] 58))):
  Calls Tryz.prog 71 #[.slice A m c] w R:=by
 have HR:=Lh hR;clear hR;go_enter Tryz.func71,Tryz.ntmps71
 go_wp2;exact HR.out
end Go.Proofs.YtjalimkajcjapaaGreatDoor
namespace Go.Proofs.YtjalimkajcjapaaGreatDoor
set_option maxRecDepth 100000
open Go.RowKit
def inr (n:Int):Bool:=decide (-2097152<=n)&&decide (n<=2097152)
def Pt.inr (p:Pt):Bool:=Go.Proofs.YtjalimkajcjapaaGreatDoor.inr p.x&&Go.Proofs.YtjalimkajcjapaaGreatDoor.inr p.y
theorem inr_iff {n:Int}:inr n=true↔-2097152<=n/\n<=2097152:=by simp[inr]
theorem Pt.inr_iff {p:Pt}:p.inr=true↔(-2097152<=p.x/\p.x<=2097152)/\-2097152<=p.y/\p.y<=2097152:=by simp[Pt.inr,Go.Proofs.YtjalimkajcjapaaGreatDoor.inr]
set_option maxHeartbeats 1000000 in
theorem wout_any (p:Pt)(w:World){R:Ending->World->Prop}(hR:∀ w',aB w w'->R (.returned (.bool (!p.inr))) w'):Calls Tryz.prog 101 #[.agg p.cells.toArray] w R:=by
 obtain⟨x,y⟩:=p;have HR1:∀ b w',(!Pt.inr ⟨x,y⟩)=b->aB w w'->R (.returned (.bool b)) w':=by rintro b w' rfl h;exact hR _ h
 have HR:=Lh HR1;clear hR HR1;unfold Pt.cells;dsimp only;have conv:∀ a b:Int,decide (a<b)=!decide (b<=a):=by intro a b;by_cases h:a<b<;>simp[h]<;>omega
 have CV:=Lh conv;clear conv
 cases h1:decide (x< -2097152)
 ·cases h2:decide (2097152<x)
  ·cases h3:decide (y< -2097152)
   ·go_enter Tryz.func101,Tryz.ntmps101
    go_wp2;refine HR.out _ _ ?_ ((aB.refl w).al _);rw[CV.out] at h1 h2 h3 ⊢;simp only[Bool.not_eq_false'] at h1 h2 h3;simp[Pt.inr,Go.Proofs.YtjalimkajcjapaaGreatDoor.inr,h1,h2,h3]
   ·go_enter Tryz.func101,Tryz.ntmps101
    go_wp2;refine HR.out _ _ ?_ ((aB.refl w).al _);rw[CV.out] at h3;simp only[Bool.not_eq_true'] at h3;simp[Pt.inr,Go.Proofs.YtjalimkajcjapaaGreatDoor.inr,h3]
  ·go_enter Tryz.func101,Tryz.ntmps101
   go_wp2;refine HR.out _ _ ?_ ((aB.refl w).al _);rw[CV.out] at h2;simp only[Bool.not_eq_true'] at h2;simp[Pt.inr,Go.Proofs.YtjalimkajcjapaaGreatDoor.inr,h2]
 ·go_enter Tryz.func101,Tryz.ntmps101
  go_wp2;refine HR.out _ _ ?_ ((aB.refl w).al _);rw[CV.out] at h1;simp only[Bool.not_eq_true'] at h1;simp[Pt.inr,Go.Proofs.YtjalimkajcjapaaGreatDoor.inr,h1]
set_option maxHeartbeats 1000000 in
theorem rin27_any (p:Pt)(w:World){R:Ending->World->Prop}(hR:∀ w',aB w w'->R (.returned (.bool p.inr)) w'):Calls Tryz.prog 134 #[.agg p.cells.toArray] w R:=by
 obtain⟨x,y⟩:=p;have HR1:∀ b w',(Pt.inr ⟨x,y⟩)=b->aB w w'->R (.returned (.bool b)) w':=by rintro b w' rfl h;exact hR _ h
 have HR:=Lh HR1;clear hR HR1;unfold Pt.cells;dsimp only
 cases h1:decide (-2097152<=x)
 ·go_enter Tryz.func134,Tryz.ntmps134
  go_wp2;refine HR.out _ _ (by simp[Pt.inr,Go.Proofs.YtjalimkajcjapaaGreatDoor.inr,h1]) ((aB.refl w).al _)
 ·cases h2:decide (x<=2097152)
  ·go_enter Tryz.func134,Tryz.ntmps134
   go_wp2;refine HR.out _ _ (by simp[Pt.inr,Go.Proofs.YtjalimkajcjapaaGreatDoor.inr,h2]) ((aB.refl w).al _)
  ·cases h3:decide (-2097152<=y)
   ·go_enter Tryz.func134,Tryz.ntmps134
    go_wp2;refine HR.out _ _ (by simp[Pt.inr,Go.Proofs.YtjalimkajcjapaaGreatDoor.inr,h3]) ((aB.refl w).al _)
   ·go_enter Tryz.func134,Tryz.ntmps134
    go_wp2;refine HR.out _ _ (by simp[Pt.inr,Go.Proofs.YtjalimkajcjapaaGreatDoor.inr,h1,h2,h3]) ((aB.refl w).al _)
set_option maxHeartbeats 2000000 in
theorem uC (l:List Pt)(v:Value)(S:Nat->Prop)(w:World)(hb:Rd w S 2 v l.length (Pts l)){R:Ending->World->Prop}
  (hR:∀ w',aB w w'->R (.returned (.int .i64 (gR (fun p=>!p.inr) l))) w'):
  Calls Tryz.prog 73 #[v,.func (.func 101) #[] #[]] w R:=by
 have HR:=Lh hR;clear hR;have hb:=hb.lt (by decide);obtain⟨_,A,c,rfl,k1,k2,k3,k4⟩:=hb;unfold maxLen at k2;go_enter Tryz.func73,Tryz.ntmps73
 go_wp2
 go_loopw [8] (fun i wr=>∃ (k:Nat),k<=l.length/\i=.int .i64 k/\Hid (∀ q∈l.take k,(!q.inr)=false)/\Hid (aB w wr)) (fun i _=>l.length-(intOf i).toNat)
 case atStart=>exact⟨0,Nat.zero_le _,rfl,fun q hq=>by simp at hq,aB.refl _⟩
 case round=>
  obtain⟨k,hk,rfl,hall,hg⟩:=hrel
  by_cases hlt:k<l.length
  ·obtain⟨b,o,rfl,hS,hc⟩:=k4 (by omega)
   have e1:=aL Pt.cells_len hg.out hS hc hlt;clear hc k4 k3;have NX:Hid ((!(l[k]'hlt).inr)=false->∀ q∈l.take (k+1),(!q.inr)=false):=dZ hlt hall.out;have FD:Hid ((!(l[k]'hlt).inr)=true->gR (fun p=>!p.inr) l=k):=lG hlt hall.out;have HI:=Lh fun W (R:Ending->World->Prop) hR=>wout_any (l[k]'hlt) W (R:=R) hR
   generalize (!(l[k]'hlt).inr)=bi at*;generalize l[k]'hlt=x at*;obtain⟨x1,x2⟩:=x;have c1:=e1 0 _ rfl;have c2:=e1 1 _ rfl;clear e1;simp only[Nat.add_zero] at c1;unfold Pt.cells at HI;dsimp only at HI
   cases bi with
   |false=>
    go_wp2_with (go_at_call 101;refine HI.out _ _ ?_;intro w1 hg1;have HG1:=Lh (hg.out.tr hg1);clear hg1 c1 c2)
    go_roundw
    case rel=>exact⟨k+1,by omega,by go_num,NX.out (by first|rfl|trivial),HG1.out⟩
    case measure=>simp[intOf];omega
   |true=>
    go_wp2_with (go_at_call 101;refine HI.out _ _ ?_;intro w1 hg1;have HG1:=Lh (hg.out.tr hg1);clear hg1 c1 c2)
    have h:=HR.out _ HG1.out;rw[FD.out (by first|rfl|trivial)] at h;exact h
  ·obtain rfl:k=l.length:=by omega
   go_wp2;have h:=HR.out _ hg.out;rw[lH hall.out] at h;exact h
def cQ (l:List Pt):Bool:=decide (l.length<=262144)&&l.all Pt.inr
theorem fidx_all (l:List Pt):(0<=gR (fun p=>!p.inr) l/\l.all Pt.inr=false)∨(gR (fun p=>!p.inr) l=-1/\l.all Pt.inr=true):=by
 unfold gR
 cases h:l.findIdx? (fun p=>!p.inr) with
 |none=>
  right
  rw[List.findIdx?_eq_none_iff] at h;refine⟨rfl,?_⟩;rw[List.all_eq_true];intro p hp;simpa using h p hp
 |some i=>
  left
  refine⟨by show (0:Int)<=i;omega,?_⟩;obtain⟨hi,hx,_⟩:=List.findIdx?_eq_some_iff_getElem.1 h;rw[List.all_eq_false];exact⟨l[i],List.getElem_mem hi,by simpa using hx⟩
set_option maxHeartbeats 1000000 in
theorem oU (l:List Pt)(v:Value)(S:Nat->Prop)(w:World)(hb:Rd w S 2 v l.length (Pts l)){R:Ending->World->Prop}
  (hR:∀ w',aB w w'->R (.returned (.bool (!l.all Pt.inr))) w'):
  Calls Tryz.prog 76 #[v,.func (.func 101) #[] #[]] w R:=by
 have HR:=Lh hR;have HX:=Lh fun (R:Ending->World->Prop) hR=>uC l v S w hb (R:=R) hR
 clear hR hb
 rcases fidx_all l with ⟨h1,h2⟩|⟨h1,h2⟩
 ·rw[h2] at HR
  generalize gR (fun p=>!p.inr) l=i at*;clear h2;go_enter Tryz.func76,Tryz.ntmps76
  go_wp2_with (go_at_call 73;refine HX.out _ ?_;intro w1 hg1)
  exact HR.out _ hg1
 ·rw[h2] at HR
  rw[h1] at HX;clear h1 h2;go_enter Tryz.func76,Tryz.ntmps76
  go_wp2_with (go_at_call 73;refine HX.out _ ?_;intro w1 hg1)
  exact HR.out _ hg1
set_option maxHeartbeats 1000000 in
theorem pG (l:List Pt)(v:Value)(S:Nat->Prop)(w:World)(hb:Rd w S 2 v l.length (Pts l)){R:Ending->World->Prop}
  (hR:∀ w',aB w w'->R (.returned (.bool (cQ l))) w'):
  Calls Tryz.prog 70 #[v] w R:=by
 have HX:=Lh fun (R:Ending->World->Prop) hR=>oU l v S w hb (R:=R) hR
 obtain⟨_,A,c,rfl,k1,k2,-,-⟩:=hb;unfold maxLen at k2
 cases h1:decide (l.length<=262144)
 ·have hr:cQ l=false:=by simp[cQ,h1]
  rw[hr] at hR;have HR:=Lh hR;have t1:decide ((l.length:Int)<=262144)=false:=by simp at h1 ⊢;omega
  clear hR hr h1;go_enter Tryz.func70,Tryz.ntmps70
  go_wp2;exact HR.out _ (aB.refl _)
 ·have hr:cQ l=l.all Pt.inr:=by simp[cQ,h1]
  rw[hr] at hR;have HR:=Lh hR;have t1:decide ((l.length:Int)<=262144)=true:=by simp at h1 ⊢;omega
  clear hR hr h1;generalize l.all Pt.inr=b at*;go_enter Tryz.func70,Tryz.ntmps70
  go_wp2_with (go_at_call 76;refine HX.out _ ?_;intro w1 hg1)
  exact HR.out _ hg1
set_option maxHeartbeats 2000000 in
theorem tR (l:List Pt)(v:Value)(S:Nat->Prop)(w:World)(hb:Rd w S 2 v l.length (Pts l)){R:Ending->World->Prop}
  (hR:∀ w',aB w w'->R (.returned (.bool (cQ l))) w'):
  Calls Tryz.prog 124 #[v] w R:=by
 have HR:=Lh hR;clear hR;have hb:=hb.lt (by decide);obtain⟨_,A,c,rfl,k1,k2,k3,k4⟩:=hb;unfold maxLen at k2;go_enter Tryz.func124,Tryz.ntmps124
 go_wp2
 go_loopw [3] (fun i wr=>∃ (k:Nat),k<=l.length/\i=.int .i64 k/\Hid (∀ q∈l.take k,(!q.inr)=false)/\Hid (aB w wr)) (fun i _=>l.length-(intOf i).toNat)
 case atStart=>exact⟨0,Nat.zero_le _,rfl,fun q hq=>by simp at hq,aB.refl _⟩
 case round=>
  obtain⟨k,hk,rfl,hall,hg⟩:=hrel
  by_cases hlt:k<l.length
  ·obtain⟨b,o,rfl,hS,hc⟩:=k4 (by omega)
   have e1:=aL Pt.cells_len hg.out hS hc hlt;clear hc k4 k3;have NX:Hid ((l[k]'hlt).inr=true->∀ q∈l.take (k+1),(!q.inr)=false):=fun h=>dZ hlt hall.out (by rw[h];rfl)
   have FD:Hid ((l[k]'hlt).inr=false->cQ l=false):=fun h=>by
    have:l.all Pt.inr=false:=List.all_eq_false.2 ⟨_,List.getElem_mem hlt,by rw[h];simp⟩;simp[cQ,this]
   have HI:=Lh fun W (R:Ending->World->Prop) hR=>rin27_any (l[k]'hlt) W (R:=R) hR
   generalize (l[k]'hlt).inr=bi at*;generalize l[k]'hlt=x at*;obtain⟨x1,x2⟩:=x;have c1:=e1 0 _ rfl;have c2:=e1 1 _ rfl;clear e1;simp only[Nat.add_zero] at c1;unfold Pt.cells at HI;dsimp only at HI
   cases bi with
   |true=>
    go_wp2_with (go_at_call 134;refine HI.out _ _ ?_;intro w1 hg1;have HG1:=Lh (hg.out.tr hg1);clear hg1 c1 c2)
    go_roundw
    case rel=>exact⟨k+1,by omega,by go_num,NX.out (by first|rfl|trivial),HG1.out⟩
    case measure=>simp[intOf];omega
   |false=>
    go_wp2_with (go_at_call 134;refine HI.out _ _ ?_;intro w1 hg1;have HG1:=Lh (hg.out.tr hg1);clear hg1 c1 c2)
    have h:=HR.out _ HG1.out;rw[FD.out (by first|rfl|trivial)] at h;exact h
  ·obtain rfl:k=l.length:=by omega
   have hal:l.all Pt.inr=true:=by
    rw[List.all_eq_true];intro p hp;have:=hall.out p (by rw[List.take_length];exact hp);simpa using this
   have hr:cQ l=decide (l.length<=262144):=by simp[cQ,hal]
   have hd:decide ((l.length:Int)<=262144)=decide (l.length<=262144):=by by_cases h:l.length<=262144<;>simp[h]<;>omega
   have HD:Hid (decide ((l.length:Int)<=262144)=cQ l):=hd.trans hr.symm;clear hal hr hd k4 k3;go_wp2;have h:=HR.out _ hg.out;rw[<-HD.out] at h;exact h
end Go.Proofs.YtjalimkajcjapaaGreatDoor
namespace Go.Proofs.YtjalimkajcjapaaGreatDoor
set_option maxRecDepth 100000
open Go.RowKit Go.Shelf
attribute [local go_sem] Oper.semAt_some
def qY (x:Pt×Pt):Int:=x.1.x*x.2.y-x.2.x*x.1.y
def gO:List (Pt×Pt)->Int
 |[]=>0
 |x::l=>qY x+gO l
theorem areaS_snoc (l:List (Pt×Pt))(x:Pt×Pt):gO (l++[x])=gO l+qY x:=by
 induction l with
 |nil=>simp[gO]
 |cons y l ih=>simp only[List.cons_append,gO,ih];omega
def rF (l:List Pt):Int:=gO (cC l)
theorem lC {a b:Int}(ha:-2097152<=a/\a<=2097152)(hb:-2097152<=b/\b<=2097152):-4398046511104<=a*b/\a*b<=4398046511104:=by
 have h1:a.natAbs<=2097152:=by omega
 have h2:b.natAbs<=2097152:=by omega
 have h3:(a*b).natAbs<=2097152*2097152:=by rw[Int.natAbs_mul];exact Nat.mul_le_mul h1 h2
 omega
theorem xS:∀ l:List PP,-(8796093022208*(l.length:Int))<=gO (l.map (fun x:PP=>x.1))/\gO (l.map (fun x:PP=>x.1))<=8796093022208*(l.length:Int)
 |[]=>by simp[gO]
 |x::l=>by
  have ih:=xS l;obtain⟨h1,h2,h3,h4,h5,h6,h7,h8⟩:=x.2;have m1:=lC ⟨h2,h1⟩ ⟨h8,h7⟩;have m2:=lC ⟨h6,h5⟩ ⟨h4,h3⟩;simp only[List.map_cons,gO,qY,List.length_cons];generalize gO (l.map fun x:PP=>x.1)=S at*;omega
def Two (B1 B2:Nat)(x:Pt×Pt)(W:World):Prop:=W.heap[B1]? =some (.cells x.1.cells.toArray 51 (0,0))/\W.heap[B2]? =some (.cells x.2.cells.toArray 51 (0,0))
theorem kT {W:World}{B:Nat}{cs:Array Value}{t:TypeId}(h:W.heap[B]? =some (.cells cs t (0,0)))(j:Nat)(v:Value):(W.setCell ⟨B,j,none⟩ v).heap[B]? =some (.cells (cs.setIfInBounds j v) t (0,0)):=by
 simp[World.setCell,Array.getElem?_modify,h]
theorem iT {W:World}{B C:Nat}{cs:Array Value}{t:TypeId}(h:W.heap[B]? =some (.cells cs t (0,0)))(hne:B≠C)(j:Nat)(v:Value):(W.setCell ⟨C,j,none⟩ v).heap[B]? =some (.cells cs t (0,0)):=by
 simp[World.setCell,Array.getElem?_modify,h,hne.symm]
theorem lJ {W:World}{B:Nat}{o:Obj}(h:W.heap[B]? =some o)(o':Obj):(W.alloc o').heap[B]? =some o:=(Below.heap_alloc W o' B (lt_of_block h)).trans h
set_option maxHeartbeats 4000000 in
theorem area_in (l:List Pt)(v:Value)(S:Nat->Prop)(w:World)(hb:Rd w S 2 v l.length (Pts l))(hr:cQ l=true):
  CallsIn Fence.wide 8 Tryz.prog 49 #[v] w fun e W'=>e=.returned (.tuple #[.int .i64 (rF l),.bool true])/\aB w W':=by
 have hlen:l.length<=262144:=by simp[cQ] at hr;exact hr.1
 have hin:∀ p∈l,p.x<=2097152/\-2097152<=p.x/\p.y<=2097152/\-2097152<=p.y:=by
  intro p hp;simp only[cQ,Bool.and_eq_true,List.all_eq_true] at hr;have:=Pt.inr_iff.1 (hr.2 p hp);omega
 have HB:=Lh (hb.lt (by decide));have HIN:=Lh hin;have HW:=Lh fun (R:Ending->World->Prop) hR=>pG l v S w hb (R:=R) hR
 rw[hr] at HW;clear hr hin;obtain⟨_,A,c,rfl,k1,k2,-,-⟩:=hb;refine callsIn_of_wp_marks Tryz.func49 rfl trivial ?_ rfl;simp only[Tryz.ntmps49,List.size_toArray,List.length_cons,List.length_nil,Nat.reduceAdd,Nat.reduceSub,Array.replicate_succ,Array.replicate_zero,List.push_toArray,List.append_toArray,List.nil_append,List.cons_append]
 gi_wp2_with fail
 refine⟨trivial,callsIn_wide.2 (HW.out _ ?_)⟩;intro w1 hg1;have G1:=Lh hg1;clear hg1
 gi_wp2_with fail
 refine⟨trivial,callsIn_wide.2 (edges_any _ _ _ _ ?_)⟩;have hs:((w1.alloc (.cells #[.int .i64 0] 3)).alloc (.cells #[.slice A l.length c] 58)).heap.size=w1.heap.size+2:=by simp[World.size_alloc]
 have hG:aB w ((w1.alloc (.cells #[.int .i64 0] 3)).alloc (.cells #[.slice A l.length c] 58)):=(G1.out.al _).al _;have hB1:((w1.alloc (.cells #[.int .i64 0] 3)).alloc (.cells #[.slice A l.length c] 58)).heap[w1.heap.size]? =some (.cells #[.int .i64 0] 3 (0,0)):=lJ (heap_alloc_new _ _) _
 have hB2:((w1.alloc (.cells #[.int .i64 0] 3)).alloc (.cells #[.slice A l.length c] 58)).heap[w1.heap.size+1]? =some (.cells #[.slice A l.length c] 58 (0,0)):=by
  have:=heap_alloc_new (w1.alloc (.cells #[.int .i64 0] 3)) (.cells #[.slice A l.length c] 58);rw[World.size_alloc] at this;exact this
 have hL:Rd ((w1.alloc (.cells #[.int .i64 0] 3)).alloc (.cells #[.slice A l.length c] 58)) (·<w.heap.size) 2 (.slice A l.length c) l.length (Pts l):=HB.out.gr2 (by decide) hG
 gi_wp2
 generalize (w1.alloc (.cells #[.int .i64 0] 3)).alloc (.cells #[.slice A l.length c] 58)=W0 at*;have hws:=G1.out.size
 refine wpIn_rangeFunc_ownH rfl (by decide) (gf:=102) (lb:=#[.pointer (some ⟨w1.heap.size+1,0,none⟩)]) rfl trivial (enters_of Tryz.func102 (by kernel_rfl) rfl)
  (xI _ (w1.heap.size+1) w.heap.size (.slice A l.length c) l W0 hB2 hL hG.size HIN.out) KpE.tr (KpE.put hG.size (by omega)) (Below.refl _ _) (fun _=>rfl)
  (fun pre W=>W.heap[w1.heap.size]? =some (.cells #[.int .i64 (gO (pre.map (fun x:PP=>x.1)))] 3 (0,0))/\Below w.heap.size w W/\W0.heap.size<=W.heap.size)
  (fun _ _ _=>False)
  (OwnFrom.and (uR _ _) (OwnFrom.and (ownFrom_below (Nat.le_refl _) (by omega)) (fun _ _ _ _ hs hg _=>Nat.le_trans hs hg.size)))
  (fun _ _ _ _ _ hs _ _=>hs)
  ⟨hB1,hG,Nat.le_refl _⟩
  (fun x a' W=>∃ B1 B2,w1.heap.size+1<B1/\w1.heap.size+1<B2/\Two B1 B2 x.1 W/\a'={tmps:=#[.slice A l.length c,undef,.int .i64 0,.bool false,.pointer (some ⟨w1.heap.size,0,none⟩),.pointer (some ⟨B1,0,none⟩),.pointer (some ⟨B2,0,none⟩),.slice A l.length c,.bool true,.bool false,.slice A l.length c,.func (.func 102) #[] #[.pointer (some ⟨w1.heap.size+1,0,none⟩)],.agg x.1.1.cells.toArray,.agg x.1.2.cells.toArray,undef,undef,undef,undef,undef,undef,undef,undef,undef,undef,undef,undef,undef,undef],defers:=[]})
  ?hAx ?assign ?body ?done ?stop
 case hAx=>
  intro x a' s X Y row hs hg hr;obtain⟨B1,B2,h1,h2,⟨h3,h4⟩,h5⟩:=hs;exact⟨B1,B2,h1,h2,⟨uR _ (fun (_:Unit)=>x.1.1.cells.toArray) () X Y row h3 hg hr,uR _ (fun (_:Unit)=>x.1.2.cells.toArray) () X Y row h4 hg hr⟩,h5⟩
 case assign=>
  rintro lY pre ⟨⟨⟨x1,x2⟩,⟨y1,y2⟩⟩,hx⟩ W K ⟨hS,hGW,hZ⟩ hK;have HK:=Lh hK;clear hK;have hS':=Lh hS;clear hS;unfold encP encPP Pt.cells
  gi_wp2
  have hh:∀ k o,W.heap[k]? =some o->((W.alloc (.cells #[.int .i64 x1,.int .i64 x2] 51)).alloc (.cells #[.int .i64 y1,.int .i64 y2] 51)).heap[k]? =some o:=fun k o h=>lJ (lJ h _) _
  refine HK.out _ _ (((KeepsOthers.alloc _ _).trans (KeepsOthers.alloc _ _)).from _) ⟨((Below.refl _ W).alloc hGW.size _).alloc (by simp;have:=hGW.size;omega) _,?_⟩ ⟨hh _ _ hS'.out,(hGW.alloc hGW.size _).alloc (by simp;have:=hGW.size;omega) _,by simp;omega⟩ ⟨W.heap.size,W.heap.size+1,by omega,by omega,⟨lJ (heap_alloc_new _ _) _,?_⟩,rfl⟩
  ·rw[hh _ _ (Array.getElem?_eq_getElem (show w1.heap.size+1<W.heap.size by omega)),Array.getElem?_eq_getElem]
  ·have:=heap_alloc_new (W.alloc (.cells #[.int .i64 x1,.int .i64 x2] 51)) (.cells #[.int .i64 y1,.int .i64 y2] 51)
   rw[World.size_alloc] at this;exact this
 case body=>
  rintro lY pre ⟨⟨⟨x1,x2⟩,⟨y1,y2⟩⟩,hx⟩ a' W hl _ ⟨hS,hGW,hZ⟩ ⟨B1,B2,hb1,hb2,⟨hT1,hT2⟩,rfl⟩ hlt;have bd:=xS pre;have SN:=Lh (areaS_snoc (pre.map (fun x:PP=>x.1)) (⟨x1,x2⟩,⟨y1,y2⟩));obtain⟨g1,g2,g3,g4,g5,g6,g7,g8⟩:=hx;dsimp only at g1 g2 g3 g4 g5 g6 g7 g8 hT1 hT2;have m1:=lC ⟨g2,g1⟩ ⟨g8,g7⟩;have m2:=lC ⟨g6,g5⟩ ⟨g4,g3⟩;dsimp only[qY] at SN;generalize gO (pre.map fun x:PP=>x.1)=S0 at*;have c1:=cell_of_row W B1 0 _ _ (0,0) hT1;have c2:=cell_of_row W B1 1 _ _ (0,0) hT1
  have c3:=cell_of_row W B2 0 _ _ (0,0) hT2;have c4:=cell_of_row W B2 1 _ _ (0,0) hT2;unfold Pt.cells at c1 c2 c3 c4;have c5:=cell_of_one hS;have c6:=free_of_one hS;have HS:=Lh hS;clear hS hT1 hT2
  gi_wp2
  refine⟨(KeepsOthers.setCell _ _ _).from _,⟨(Below.refl _ W).setCell (p:=⟨w1.heap.size,0,none⟩) hws _,by simp[World.setCell,Array.getElem?_modify]⟩,⟨?_,hGW.setCell (p:=⟨w1.heap.size,0,none⟩) hws _,by rw[dK];omega⟩⟩;rw[List.map_append];show _=some (Obj.cells #[.int .i64 (gO (pre.map (fun x:PP=>x.1)++[(⟨x1,x2⟩,⟨y1,y2⟩)]))] 3 (0,0));rw[SN.out];exact kT HS.out 0 _
 case done=>
  rintro D xs W hD hxs ⟨hS,hGW,hZ⟩ hK;have cS:=cell_of_one hS;have HX:=Lh hxs;clear hxs hS
  gi_wp2
  refine⟨by simp,.inl ⟨_,_,rfl,run_takeDeferred hK,?_⟩⟩;refine⟨.tuple #[.int .i64 (gO (xs.map (fun x:PP=>x.1))),.bool true],by simp[results,go_sem],by rw[HX.out];rfl,hGW.trans (belowK_b (w:=w) (Nat.le_refl _) W D _ _ (by have:=hG.size;omega) hK rfl rfl)⟩
 case stop=>
  rintro D c pre W _ _ h _;exact h.elim
set_option maxHeartbeats 1000000 in
theorem area_any (l:List Pt)(v:Value)(S:Nat->Prop)(w:World)(hb:Rd w S 2 v l.length (Pts l)){R:Ending->World->Prop}
  (hR:∀ w',aB w w'->R (.returned (.tuple #[.int .i64 (if cQ l=true then rF l else 0),.bool (cQ l)])) w'):
  Calls Tryz.prog 49 #[v] w R:=by
 cases hr:cQ l with
 |true=>
  rw[hr,if_pos rfl] at hR;refine(callsIn_wide.1 (area_in l v S w hb hr)).mono ?_;rintro e W' ⟨rfl,hg⟩;exact hR _ hg
 |false=>
  rw[hr] at hR;have HR:=Lh hR;have HW:=Lh fun (R:Ending->World->Prop) hR=>pG l v S w hb (R:=R) hR
  rw[hr] at HW;clear hr hR hb;go_enter Tryz.func49,Tryz.ntmps49
  go_wp2_with (go_at_call 70;refine HW.out _ ?_;intro w1 hg1)
  exact HR.out _ hg1
end Go.Proofs.YtjalimkajcjapaaGreatDoor
