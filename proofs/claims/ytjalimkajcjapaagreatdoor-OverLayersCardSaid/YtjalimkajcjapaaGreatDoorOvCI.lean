import Derived.Test.YtjalimkajcjapaaGreatDoorOvAB
import Derived.Test.YtjalimkajcjapaaGreatDoorWindB
import Derived.Laws.OwnMore
namespace Go.Proofs.YtjalimkajcjapaaGreatDoor
set_option maxRecDepth 100000
open Go.RowKit B
structure Ft where
 h:Bool
 id:Nat
 ty:Int
 pv:Value
 av:Value
def Ft.cells (f:Ft):List Value:=[.bool f.h,.int .u64 f.id,.int .i64 f.ty,f.pv,f.av]
def aV:Ft:=⟨false,0,0,.slice none 0 0,.slice none 0 0⟩
def Is (ns:List Int):List Value:=ns.map fun n=>.int .i64 n
def Fre (W:World)(v v':Value):Prop:=v'.ownBlock=v.ownBlock∨∃ k,v'.ownBlock=some k/\W.heap.size<=k
def uV (pv sv:Value):Nat->Prop:=fun b=>some b≠pv.ownBlock/\some b≠sv.ownBlock
structure FSt (w0:World) (pv sv:Value) (rows:List aI) (ns:List Int) (W:World):Prop where
 gr:aB w0 W
 op:W.ownsRow w0.heap.size 58 1 pv rows.length (rows.map aI.v)
 os:W.ownsRow w0.heap.size 3 1 sv ns.length (Is ns)
 ne:∀ k,pv.ownBlock=some k->sv.ownBlock≠some k
 each:∀ r∈rows,r.rd W (uV pv sv)
theorem FSt.nil (w:World):FSt w (.slice none 0 0) (.slice none 0 0) [] [] w:=
 ⟨aB.refl _,World.ownsRow_nil _ _ _ _,World.ownsRow_nil _ _ _ _,fun k hk=>by simp[Value.ownBlock] at hk,fun r hr=>by simp at hr⟩
theorem FSt.tr {w0:World}{pv sv:Value}{rows:List aI}{ns:List Int}{W W':World}(h:FSt w0 pv sv rows ns W)(hg:aB W W'):FSt w0 pv sv rows ns W':=
 ⟨h.gr.tr hg,aJ h.op hg,aJ h.os hg,h.ne,fun r hr=>(h.each r hr).gr2 (by decide) hg⟩
theorem FSt.off {w0:World}{pv sv:Value}{rows:List aI}{ns:List Int}{W:World}(h:FSt w0 pv sv rows ns W){b:Nat}(hb:W.heap.size<=b):uV pv sv b:=
 ⟨fun e=>by have:=(h.op.lt b e.symm).2;omega,fun e=>by have:=(h.os.lt b e.symm).2;omega⟩
theorem Fre.off {W:World}{v v':Value}(h:Fre W v v'){b:Nat}(hb:b<W.heap.size)(h1:some b≠v.ownBlock):some b≠v'.ownBlock:=by
 rcases h with h|⟨k,h,hk⟩
 ·rw[h];exact h1
 ·rw[h]
  intro e;injection e with e
  omega
theorem FSt.path {w0:World}{pv sv pv':Value}{rows:List aI}{ns:List Int}{W W':World}{r:aI}(h:FSt w0 pv sv rows ns W)
  (hg:W.grownBy W' pv.ownBlock) (ho:W'.ownsRow w0.heap.size 58 1 pv' (rows++[r]).length ((rows++[r]).map aI.v)) (hf:Fre W pv pv') (hr:r.rd W (uV pv sv)):FSt w0 pv' sv (rows++[r]) ns W':=by
 have pk:sv.ownBlock=none∨sv.ownBlock≠pv.ownBlock:=by
  cases e:sv.ownBlock with
  |none=>exact .inl rfl
  |some k=>exact .inr fun e2=>h.ne k e2.symm e
 refine⟨bK h.gr hg (cA h.op),ho,h.os.kept hg pk,?_,?_⟩
 ·intro k hk e
  rcases hf with e1|⟨j,e1,hj⟩
  ·exact h.ne k (e1.symm.trans hk) e
  ·rw[hk] at e1
   injection e1 with e1
   have:=(h.os.lt k e).2;omega
 ·intro q hq
  have key:∀ q:aI,q.rd W (uV pv sv)->q.rd W' (uV pv' sv):=fun q hq=>((hq.and_lt (by decide)).by_ (by decide) hg (fun b hb=>hb.1.1)).into fun b hb=>⟨hf.off hb.2 hb.1.1,hb.1.2⟩
  rcases List.mem_append.1 hq with hq|hq
  ·exact key q (h.each q hq)
  ·rw[List.mem_singleton.1 hq];exact key r hr
theorem FSt.sign {w0:World}{pv sv sv':Value}{rows:List aI}{ns:List Int}{W W':World}{n:Int}(h:FSt w0 pv sv rows ns W)
  (hg:W.grownBy W' sv.ownBlock) (ho:W'.ownsRow w0.heap.size 3 1 sv' (ns++[n]).length (Is (ns++[n]))) (hf:Fre W sv sv'):FSt w0 pv sv' rows (ns++[n]) W':=by
 have pk:pv.ownBlock=none∨pv.ownBlock≠sv.ownBlock:=by
  cases e:pv.ownBlock with
  |none=>exact .inl rfl
  |some k=>exact .inr fun e2=>h.ne k e e2.symm
 refine⟨bK h.gr hg (cA h.os),h.op.kept hg pk,ho,?_,?_⟩
 ·intro k hk e
  rcases hf with e1|⟨j,e1,hj⟩
  ·exact h.ne k hk (e1.symm.trans e)
  ·rw[e] at e1
   injection e1 with e1
   have:=(h.op.lt k hk).2;omega
 ·intro q hq
  exact(((h.each q hq).and_lt (by decide)).by_ (by decide) hg (fun b hb=>hb.1.2)).into fun b hb=>⟨hb.1.1,hf.off hb.2 hb.1.2⟩
theorem aQ {fn:Func}{p s:Tmp}{t1:TypeId}(h:fn.results=#[.cell p t1,.tmp s])(tmps:Array Value)(w:World)(g1:Nat)(c1:Array Value)(u1:TypeId)(f1:Nat×Nat)(d1:TypeDesc)
  (hp:tmps.getD p undef=.pointer (some ⟨g1,0,none⟩)) (hg1:w.heap[g1]? =some (.cells c1 u1 f1)) {v:Value} (hv:tmps.getD s undef=v)
  (hd1:(match d1 with|.struct _|.array _ _=>true|_=>false)=true) (hu1:Tryz.prog.underlying t1=some d1) (hi1:(Tryz.prog.info? t1).map (·.size)=some c1.size):
  (results fn tmps).run Tryz.prog w=.ok (.tuple #[.agg c1,v]) w:=by
 have hp':tmps[p]?.getD undef=.pointer (some ⟨g1,0,none⟩):=by simpa using hp
 have hv':tmps[s]?.getD undef=v:=by simpa using hv
 simp[results,h,hp',hv',asAddr,run_loadVar_row w g1 u1 t1 c1 f1 d1 hg1 hu1 (by cases d1<;>first|rfl|simp at hd1) hi1]
theorem uK:jT Tryz.prog 42 49 (.agg #[.string ⟨#[]⟩,.int .i64 0,.string ⟨#[]⟩,.int .u64 0]) 4 48:=⟨by kernel_rfl,by kernel_rfl,rfl,by decide,by decide⟩
set_option maxHeartbeats 1000000 in
theorem gE (n:Nat)(xs:List Value)(v:Value)(S:Nat->Prop)(w:World)(hb:Rd w S 4 v n xs)(hl:n*48<=140737488355328)(h1:∀ u∈xs,u.oneCell'=true){R:Ending->World->Prop}
  (hR:∀ r w',w'.ownsRow w.heap.size 49 4 r n xs->aB w w'->R (.returned r) w'):
  Calls Tryz.prog 21 #[v] w R:=by
 have HB:=Lh hb;have hR:=Lh hR;obtain⟨hx,A,c,rfl,k1,h2,h3,h4⟩:=hb;rcases A with _|a
 ·have hne:=fun w=>Lib.run_eql_slice_nil (P:=Tryz.prog) w 42 49 none 0 0 0 0 uK.ht
  obtain rfl:c=0:=h3 rfl;obtain rfl:n=0:=by omega
  obtain rfl:xs=[]:=List.eq_nil_of_length_eq_zero (by omega);clear h4 h2 h3;go_enter Tryz.func21,Tryz.ntmps21
  go_wp2;exact hR.out _ _ (World.ownsRow_nil _ _ _ _) (aB.refl _)
 ·have hne:=fun w=>Lib.run_eql_slice_nil (P:=Tryz.prog) w 42 49 (some a) n c 0 0 uK.ht
  clear h3 h4 h2;have hrow:=Lh (World.ownsRow_lit (base:=w.heap.size) (e:=49) (size:=4) w #[] 0 (Nat.le_refl _) (by decide) rfl);go_enter Tryz.func21,Tryz.ntmps21
  go_wp2_with (at_builtin;refine fT rfl _ _ rfl uK hrow.out rfl (HB.out.al (by decide) _) rfl h1 (by omega) (by simp) ?_;intro v1 w1 hown1 hgr1 hb1)
  exact hR.out _ _ (aO hown1 (by simp) (by simp)) (bK ((aB.refl w).al _) hgr1 (cA hrow.out))
end Go.Proofs.YtjalimkajcjapaaGreatDoor
namespace Go.Proofs.YtjalimkajcjapaaGreatDoor
set_option maxRecDepth 100000
variable {α : Type}
structure eF (keep:α->Bool) (l d:List α) (i j:Nat):Prop where
 len:d.length=l.length
 lt:i<j
 le:j<=l.length
 low:d.take i=(l.take j).filter keep
 high:d.drop j=l.drop j
theorem eF.start {keep:α->Bool}{l:List α}{i:Nat}(hi:i<l.length)(h:∀ q∈l.take i,keep q=true)(hx:keep l[i]=false):eF keep l l i (i+1):=by
 refine⟨rfl,Nat.lt_succ_self i,hi,?_,rfl⟩;rw[List.take_succ_eq_append_getElem hi,List.filter_append,List.filter_eq_self.2 h];simp[hx]
theorem eF.at_ {keep:α->Bool}{l d:List α}{i j:Nat}(h:eF keep l d i j)(hj:j<l.length):d[j]'(by have:=h.len;omega)=l[j]:=by
 have h1:d[j]? =l[j]? :=by
  have:=congrArg (fun x=>x[0]?) h.high;simpa using this
 rw[List.getElem?_eq_getElem hj,List.getElem?_eq_getElem (by have:=h.len;omega)] at h1;exact Option.some.inj h1
theorem eF.skip {keep:α->Bool}{l d:List α}{i j:Nat}(h:eF keep l d i j)(hj:j<l.length)(hx:keep l[j]=false):eF keep l d i (j+1):=by
 refine⟨h.len,Nat.lt_succ_of_lt h.lt,hj,?_,?_⟩
 ·rw[List.take_succ_eq_append_getElem hj,List.filter_append,h.low]
  simp[hx]
 ·rw[<-List.drop_drop,h.high,List.drop_drop]
theorem eF.keep {keep:α->Bool}{l d:List α}{i j:Nat}(h:eF keep l d i j)(hj:j<l.length)(hx:keep l[j]=true):eF keep l (d.set i l[j]) (i+1) (j+1):=by
 have hl:=h.len;have hij:=h.lt;refine⟨by rw[List.length_set];exact h.len,by omega,hj,?_,?_⟩
 ·rw[List.take_succ_eq_append_getElem hj,List.filter_append,List.take_succ_eq_append_getElem (by rw[List.length_set];omega),List.take_set_of_le (Nat.le_refl i),h.low]
  simp[hx]
 ·rw[List.drop_set_of_lt (by omega),<-List.drop_drop,h.high,List.drop_drop]
theorem eF.done {keep:α->Bool}{l d:List α}{i:Nat}(h:eF keep l d i l.length):d.take i=l.filter keep:=by
 rw[h.low,List.take_length]
theorem eF.cnt {keep:α->Bool}{l d:List α}{i:Nat}(h:eF keep l d i l.length):(l.filter keep).length=i:=by
 have:=h.lt;have:=h.len;rw[<-h.done,List.length_take];omega
end Go.Proofs.YtjalimkajcjapaaGreatDoor
namespace Go.Proofs.YtjalimkajcjapaaGreatDoor
set_option maxRecDepth 100000
open Go.RowKit Go.Lib B
set_option maxHeartbeats 1000000 in
theorem wO (p:Pt)(lo hi:Int)(w:World){R:Ending->World->Prop}(hR:∀ w',aB w w'->R (.returned (.bool (p.inside lo hi))) w'):Calls Tryz.prog 54 #[.agg p.cells.toArray,.int .i64 lo,.int .i64 hi] w R:=by
 obtain⟨x,y⟩:=p;have HR:∀ b w',(Pt.inside ⟨x,y⟩ lo hi)=b->aB w w'->R (.returned (.bool b)) w':=by rintro b w' rfl h;exact hR _ h
 have HR:=Lh HR;clear hR;unfold Pt.cells;dsimp only
 cases h1:decide (lo<=x)
 ·go_enter Tryz.func54,Tryz.ntmps54
  go_wp2;refine HR.out _ _ (by simp[Pt.inside,h1]) ((aB.refl w).al _)
 ·cases h2:decide (x<=hi)
  ·go_enter Tryz.func54,Tryz.ntmps54
   go_wp2;refine HR.out _ _ (by simp[Pt.inside,h1,h2]) ((aB.refl w).al _)
  ·cases h3:decide (lo<=y)
   ·go_enter Tryz.func54,Tryz.ntmps54
    go_wp2;refine HR.out _ _ (by simp[Pt.inside,h1,h2,h3]) ((aB.refl w).al _)
   ·go_enter Tryz.func54,Tryz.ntmps54
    go_wp2;refine HR.out _ _ (by simp[Pt.inside,h1,h2,h3]) ((aB.refl w).al _)
set_option maxHeartbeats 1000000 in
theorem sK (p:Pt)(lo hi:Int)(b1 b2:Nat)(w:World)(h1:w.cell? ⟨b1,0,none⟩=some (.int .i64 lo))(h2:w.cell? ⟨b2,0,none⟩=some (.int .i64 hi)){R:Ending->World->Prop}(hR:∀ w',aB w w'->R (.returned (.bool (!p.inside lo hi))) w'):
  Calls Tryz.prog 53 #[.agg p.cells.toArray,.pointer (some ⟨b1,0,none⟩),.pointer (some ⟨b2,0,none⟩)] w R:=by
 have HR:=Lh hR;clear hR;have HI:=Lh fun W (R:Ending->World->Prop) hR=>wO p lo hi W (R:=R) hR
 generalize p.inside lo hi=b at*;obtain⟨x,y⟩:=p;unfold Pt.cells at*;dsimp only at*;have g1:=dR ((aB.refl w).al (.cells #[.int .i64 x,.int .i64 y] 51)) h1;have g2:=dR ((aB.refl w).al (.cells #[.int .i64 x,.int .i64 y] 51)) h2;go_enter Tryz.func53,Tryz.ntmps53
 go_wp2_with (go_at_call 54;refine HI.out _ _ ?_;intro w1 hg1)
 exact HR.out _ (gW hg1)
set_option maxHeartbeats 2000000 in
theorem qN (l:List Pt)(lo hi:Int)(b1 b2:Nat)(v:Value)(S:Nat->Prop)(w:World)(hb:Rd w S 2 v l.length (Pts l))(h1:w.cell? ⟨b1,0,none⟩=some (.int .i64 lo))(h2:w.cell? ⟨b2,0,none⟩=some (.int .i64 hi)){R:Ending->World->Prop}
  (hR:∀ w',aB w w'->R (.returned (.int .i64 (gR (fun p=>!p.inside lo hi) l))) w'):
  Calls Tryz.prog 73 #[v,.func (.func 53) #[] #[.pointer (some ⟨b1,0,none⟩),.pointer (some ⟨b2,0,none⟩)]] w R:=by
 have HR:=Lh hR;clear hR;have H1:=Lh h1;have H2:=Lh h2;clear h1 h2;have hb:=hb.lt (by decide);obtain⟨_,A,c,rfl,k1,k2,k3,k4⟩:=hb;unfold maxLen at k2;go_enter Tryz.func73,Tryz.ntmps73
 go_wp2
 go_loopw [8] (fun i wr=>∃ (k:Nat),k<=l.length/\i=.int .i64 k/\Hid (∀ q∈l.take k,(!q.inside lo hi)=false)/\Hid (aB w wr)) (fun i _=>l.length-(Go.RowKit.intOf i).toNat)
 case atStart=>exact⟨0,Nat.zero_le _,rfl,fun q hq=>by simp at hq,aB.refl _⟩
 case round=>
  obtain⟨k,hk,rfl,hall,hg⟩:=hrel
  by_cases hlt:k<l.length
  ·obtain⟨b,o,rfl,hS,hc⟩:=k4 (by omega)
   have e1:=aL Pt.cells_len hg.out hS hc hlt;clear hc k4 k3;have NX:Hid ((!l[k].inside lo hi)=false->∀ q∈l.take (k+1),(!q.inside lo hi)=false):=dZ hlt hall.out;have FD:Hid ((!l[k].inside lo hi)=true->gR (fun p=>!p.inside lo hi) l=k):=lG hlt hall.out;have HI:=Lh fun W h1 h2 (R:Ending->World->Prop) hR=>sK (l[k]'hlt) lo hi b1 b2 W h1 h2 (R:=R) hR
   generalize (!l[k].inside lo hi)=bi at*;generalize l[k]=x at*;obtain⟨x1,x2⟩:=x;have c1:=e1 0 _ rfl;have c2:=e1 1 _ rfl;clear e1;simp only[Nat.add_zero] at c1;unfold Pt.cells at HI;dsimp only at HI
   cases bi with
   |false=>
    go_wp2_with (go_at_call 53;refine HI.out _ (dR hg.out H1.out) (dR hg.out H2.out) _ ?_;intro w1 hg1;have HG1:=Lh (hg.out.tr hg1);clear hg1 c1 c2)
    go_roundw
    case rel=>exact⟨k+1,by omega,by go_num,NX.out (by first|rfl|trivial),HG1.out⟩
    case measure=>simp[Go.RowKit.intOf];omega
   |true=>
    go_wp2_with (go_at_call 53;refine HI.out _ (dR hg.out H1.out) (dR hg.out H2.out) _ ?_;intro w1 hg1;have HG1:=Lh (hg.out.tr hg1);clear hg1 c1 c2)
    have h:=HR.out _ HG1.out;rw[FD.out (by first|rfl|trivial)] at h;exact h
  ·obtain rfl:k=l.length:=by omega
   go_wp2;have h:=HR.out _ hg.out;rw[lH hall.out] at h;exact h
set_option maxHeartbeats 4000000 in
theorem oT (l:List Pt)(lo hi:Int)(b1 b2 base:Nat)(v:Value)(w0 w:World)(hown:w.ownsRow base 51 2 v l.length (Pts l))(hg0:aB w0 w)(hb0:w0.heap.size<=base)
  (h1:w0.cell? ⟨b1,0,none⟩=some (.int .i64 lo)) (h2:w0.cell? ⟨b2,0,none⟩=some (.int .i64 hi)) {R:Ending->World->Prop}
  (hR:∀ r w',w'.ownsRow base 51 2 r (l.filter fun p=>p.inside lo hi).length (Pts (l.filter fun p=>p.inside lo hi))->aB w0 w'->R (.returned r) w'):
  Calls Tryz.prog 51 #[v,.func (.func 53) #[] #[.pointer (some ⟨b1,0,none⟩),.pointer (some ⟨b2,0,none⟩)]] w R:=by
 have HR:=Lh hR;clear hR;have H1:=Lh h1;have H2:=Lh h2;have HX:=Lh fun (R:Ending->World->Prop) hR=>qN l lo hi b1 b2 v _ w (Rd.own hown) (dR hg0 h1) (dR hg0 h2) (R:=R) hR
 clear h1 h2
 obtain⟨A,c,rfl⟩:∃ A c,v=.slice A l.length c:=by
  obtain⟨_,A,c,h,_⟩:=Rd.own hown;exact⟨A,c,h⟩
 cases hf:l.findIdx? (fun p=>!p.inside lo hi) with
 |none=>
  have hfi:gR (fun p=>!p.inside lo hi) l=-1:=by simp[gR,hf]
  rw[hfi] at HX
  have hall:l.filter (fun p=>p.inside lo hi)=l:=by
   rw[List.findIdx?_eq_none_iff] at hf;rw[List.filter_eq_self];intro q hq;simpa using hf q hq
  have HALL:=Lh hall;have HO:=Lh hown;clear hf hfi hall hown;go_enter Tryz.func51,Tryz.ntmps51
  go_wp2_with (go_at_call 73;refine HX.out _ ?_;intro w1 hg1)
  refine HR.out _ _ ?_ (hg0.tr hg1);rw[HALL.out];exact aJ HO.out hg1
 |some i0=>
  have hfi:gR (fun p=>!p.inside lo hi) l=i0:=by simp[gR,hf]
  rw[hfi] at HX;obtain⟨hi0,hx0,hlo⟩:=List.findIdx?_eq_some_iff_getElem.1 hf
  have st:=Lh (eF.start (keep:=fun p=>p.inside lo hi) hi0 (fun q hq=>by
   obtain⟨j,hj,rfl⟩:=List.mem_take_iff_getElem.1 hq;have:=hlo j (by omega)
   simpa using this) (by simpa using hx0))
  clear hf hfi hx0 hlo
  obtain⟨g,rfl⟩:∃ g,A=some ⟨g,0,none⟩:=by
   rcases hown.2 with ⟨h,h0⟩|⟨g,cap,cur,h,_⟩
   ·injection h with _ h _;omega
   ·injection h with h
    exact⟨g,h⟩
  have hcap:l.length<=c/\c<=9223372036854775807:=by
   obtain⟨_,A',c',h,h1,h3,_⟩:=Rd.own hown;injection h with _ _ h
   subst h;exact⟨h1,h3⟩
  obtain⟨hcap1,hcap2⟩:=hcap;have HO:=Lh hown;clear hown;have t0:((i0:Int)==-1)=false:=by simp
  go_enter Tryz.func51,Tryz.ntmps51
  go_wp2_with (go_at_call 73;refine HX.out _ ?_;intro w1 hg1;have HG1:=Lh (hg0.tr hg1);have HO1:=Lh (aJ HO.out hg1);clear hg1)
  go_loopw [5,6] (fun s5 s6 wr=>∃ (i j:Nat) (d:List Pt),s5=.int .i64 i/\s6=.int .i64 j/\i<j/\j<=l.length/\d.length=l.length/\wr.ownsRow base 51 2 (.slice (some ⟨g,0,none⟩) l.length c) l.length (Pts d)/\Hid (aB w0 wr)/\Hid (eF (fun p=>p.inside lo hi) l d i j)) (fun _ s6 _=>l.length-(Go.RowKit.intOf s6).toNat)
  case atStart=>exact⟨i0,i0+1,l,rfl,by go_num,by omega,by omega,rfl,HO1.out,HG1.out,st.out⟩
  case round=>
   obtain⟨i,j,d,rfl,rfl,hij,hj,hd,hO,hG,hI⟩:=hrel;have hfz:=hO.frozenAt;clear st HO1 HG1 HX
   by_cases hlt:j<l.length
   ·have e1:=gQ hO (j:=j) (by omega)
    have hdj:=hI.out.at_ hlt;rw[hdj] at e1;have SK:Hid ((!l[j].inside lo hi)=true->eF (fun p=>p.inside lo hi) l d i (j+1)):=fun h=>hI.out.skip hlt (by simpa using h)
    have KP:Hid ((!l[j].inside lo hi)=false->eF (fun p=>p.inside lo hi) l (d.set i l[j]) (i+1) (j+1)):=fun h=>hI.out.keep hlt (by simpa using h)
    have HI:=Lh fun W h1 h2 (R:Ending->World->Prop) hR=>sK (l[j]'hlt) lo hi b1 b2 W h1 h2 (R:=R) hR
    have HO:=Lh hO;clear hO hdj;have hw:j<d.length:=by omega
    generalize (!l[j].inside lo hi)=bi at*;generalize l[j]=x at*;obtain⟨x1,x2⟩:=x;have c1:=e1 0 _ rfl;have c2:=e1 1 _ rfl;clear e1;simp only[Nat.add_zero] at c1;unfold Pt.cells at HI;dsimp only at HI;go_wp2_with fail
    refine HI.out _ (dR (hG.out.al _) H1.out) (dR (hG.out.al _) H2.out) _ ?_;intro w2 hg2;have bx:=kS hg2;have G2:=Lh (gW hg2);have O2:=Lh (aJ HO.out (gW hg2));clear c1 c2 hg2
    cases bi with
    |true=>
     go_wp2;go_roundw
     case rel=>exact⟨i,j+1,d,rfl,by go_num,by omega,by omega,hd,O2.out,hG.out.tr G2.out,SK.out (by first|rfl|trivial)⟩
     case measure=>simp[Go.RowKit.intOf];omega
    |false=>
     have e3:=gQ O2.out (j:=i) (by omega);have hil:i<l.length:=by omega
     generalize d[i]'(by omega)=y at*;obtain⟨y1,y2⟩:=y;have p1:=e3 0 _ rfl;have p2:=e3 1 _ rfl;simp only[Nat.add_zero] at p1;have hfz:=O2.out.frozenAt
     have hfin:Hid (((w2.setCell ⟨g,i*2,none⟩ (.int .i64 x1)).setCell ⟨g,i*2+1,none⟩ (.int .i64 x2)).ownsRow base 51 2 (.slice (some ⟨g,0,none⟩) l.length c) l.length (Pts (d.set i ⟨x1,x2⟩))/\
       aB w0 ((w2.setCell ⟨g,i*2,none⟩ (.int .i64 x1)).setCell ⟨g,i*2+1,none⟩ (.int .i64 x2))):=by
      have hgb:=(O2.out.lt g rfl).1;refine⟨aO ((O2.out.stored _ _).1.stored _ _).1 rfl ?_,((hG.out.tr G2.out).set (by show _<=g;omega) _).set (by show _<=g;omega) _⟩;exact pts_set d i ⟨x1,x2⟩ (by omega)
     clear e3;have b1:=bx 0;have b2:=bx 1;clear bx;go_wp2;go_roundw
     case rel=>exact⟨i+1,j+1,d.set i ⟨x1,x2⟩,by go_num,by go_num,by omega,by omega,by rw[List.length_set];exact hd,hfin.out.1,hfin.out.2,KP.out (by first|rfl|trivial)⟩
     case measure=>simp[Go.RowKit.intOf];omega
   ·obtain rfl:j=l.length:=by omega
    have hcl:∀ ty,(Builtin.clear_ #[58] ty #[.slice (some ⟨g,i*2,none⟩) (l.length-i) (c-i)]).run Tryz.prog wr=.ok (.tuple #[]) (wr.setCells g (i*2) (Builtin.zeroCells (Value.agg #[.int .i64 0,.int .i64 0]).cells (l.length-i)).toList):=by
     have hzl:(Builtin.zeroCells (Value.agg #[.int .i64 0,.int .i64 0]).cells (l.length-i)).toList.length=(l.length-i)*2:=by simp[Builtin.zeroCells,Value.cells]
     refine fun ty=>jY wr _ 51 ty (.agg #[.int .i64 0,.int .i64 0]) gM.ht ?_ g _ _ _ _ (by omega) rfl ?_ ?_ ?_
     ·obtain⟨i,hi,hz0,_⟩:=info_parts gM.hi
      exact vR hi hz0
     ·intro j hj
      rw[hzl] at hj;rw[hO.cellAt (i*2+j) (by omega),List.getElem?_eq_getElem (by rw[jR];omega)];rfl
     ·exact fun j _=>hfz _
     ·intro u hu
      rw[Array.mem_toList_iff] at hu;simp only[Builtin.zeroCells,Array.mem_map,Array.mem_range] at hu;obtain⟨i,_,rfl⟩:=hu;have h2:i%2<2:=Nat.mod_lt _ (by decide);show Value.oneCell' ((#[Value.int .i64 0,Value.int .i64 0]:Array Value)[i%2]!)=true;generalize i%2=r at h2
      match r,h2 with
      |0,_=>rfl
      |1,_=>rfl
    have hln:Hid ((l.filter fun p=>p.inside lo hi).length=i):=hI.out.cnt
    have hfin:Hid (∀ zs2:List Value,(wr.setCells g (i*2) zs2).ownsRow base 51 2 (.slice (some ⟨g,0,none⟩) i c) i (Pts (l.filter fun p=>p.inside lo hi))/\aB w0 (wr.setCells g (i*2) zs2)):=by
     intro zs2;have hgb:=(hO.lt g rfl).1;obtain⟨ys,h3,h4,h5⟩:=jL (m:=i*2) zs2 (i*2) wr _ (Nat.le_refl _) hO;refine⟨aO (oY h3 (by omega) (by omega)) rfl ?_,bK hG.out h5 fun k hk=>by cases hk;omega⟩;rw[h4,rG,hI.out.done]
    clear hO hfz;have hkz:i<=l.length:=by omega
    have hkc:i<=c:=by omega
    go_wp2;exact HR.out (.slice (some ⟨g,0,none⟩) i c) _ (aO (hfin.out _).1 hln.out.symm rfl) (hfin.out _).2
set_option maxHeartbeats 2000000 in
theorem wL (l:List Pt)(lo hi:Int)(v:Value)(S:Nat->Prop)(w:World)(hb:Rd w S 2 v l.length (Pts l))(hl:l.length<=1000000){R:Ending->World->Prop}
  (hR:∀ r w',w'.ownsRow (w.heap.size+2) 51 2 r (l.filter fun p=>p.inside lo hi).length (Pts (l.filter fun p=>p.inside lo hi))->aB w w'->R (.returned r) w'):
  Calls Tryz.prog 29 #[v,.int .i64 lo,.int .i64 hi] w R:=by
 have HR:=Lh hR;clear hR;have HB:=Lh hb;clear hb;go_enter Tryz.func29,Tryz.ntmps29
 go_wp2_with fail
 have hs2:((w.alloc (.cells #[.int .i64 lo] 3)).alloc (.cells #[.int .i64 hi] 3)).heap.size=w.heap.size+2:=by simp[World.size_alloc]
 have hgw:Hid (aB w ((w.alloc (.cells #[.int .i64 lo] 3)).alloc (.cells #[.int .i64 hi] 3))):=((aB.refl w).al _).al _;have hc1:Hid (((w.alloc (.cells #[.int .i64 lo] 3)).alloc (.cells #[.int .i64 hi] 3)).cell? ⟨w.heap.size,0,none⟩=some (.int .i64 lo)):=kS ((aB.refl _).al _) 0
 have hc2:Hid (((w.alloc (.cells #[.int .i64 lo] 3)).alloc (.cells #[.int .i64 hi] 3)).cell? ⟨w.heap.size+1,0,none⟩=some (.int .i64 hi)):=by
  have:=kS (aB.refl ((w.alloc (.cells #[.int .i64 lo] 3)).alloc (.cells #[.int .i64 hi] 3))) 0;rw[World.size_alloc] at this;exact this
 have hb2:Hid (Rd ((w.alloc (.cells #[.int .i64 lo] 3)).alloc (.cells #[.int .i64 hi] 3)) (·<w.heap.size) 2 v l.length (Pts l)):=HB.out.gr (by decide) hgw.out;have HS2:=Lh hs2;clear hs2;generalize (w.alloc (.cells #[.int .i64 lo] 3)).alloc (.cells #[.int .i64 hi] 3)=W at*;refine nF l v _ W hb2.out hl ?_;intro r1 w1 hown1 hg1;rw[HS2.out] at hown1;have HO1:=Lh hown1;have HG1:=Lh hg1;clear hown1 hg1;go_wp2_with fail
 refine oT l lo hi w.heap.size (w.heap.size+1) (w.heap.size+2) r1 W w1 HO1.out HG1.out (by rw[HS2.out];exact Nat.le_refl _) hc1.out hc2.out ?_;intro r2 w2 hown2 hg2;go_wp2;exact HR.out _ _ hown2 (hgw.out.tr hg2)
end Go.Proofs.YtjalimkajcjapaaGreatDoor
namespace Go.Proofs.YtjalimkajcjapaaGreatDoor
set_option maxRecDepth 100000
open Go.RowKit
set_option maxHeartbeats 2000000 in
theorem yW (a:Value)(A:List aI)(S S':Nat->Prop)(w:World)(ha:Rd w S 1 a A.length (A.map aI.v))(hA:∀ r∈A,r.rd w S')(hBig:∀ r∈A,r.l.length<=140737488355328){R:Ending->World->Prop}
  (hR:∀ b w',(b=false->A.length<=40/\∀ r∈A,r.l.length<=300)->aB w w'->R (.returned (.bool b)) w'):
  Calls Tryz.prog 12 #[a] w R:=by
 have HR:=Lh hR;have HBG:=Lh hBig;clear hR hBig;have HA0:=Lh ha;obtain⟨_,A0,c,rfl,h1,h2,h3,h4⟩:=ha;have HA:=Lh hA;unfold maxLen at h2;clear hA;go_enter Tryz.func12,Tryz.ntmps12
 go_wp2
 go_loopw [4,3] (fun i s wr=>∃ (k:Nat) (n:Int),k<=A.length/\i=.int .i64 k/\s=.int .i64 n/\(0<=n/\n<=300)/\Hid (∀ r∈A.take k,r.l.length<=300)/\Hid (aB w wr)) (fun i _ _=>A.length-(intOf i).toNat)
 case atStart=>exact⟨0,0,Nat.zero_le _,rfl,rfl,⟨by decide,by decide⟩,fun r hr=>by simp at hr,aB.refl _⟩
 case round=>
  obtain⟨k,n,hk,rfl,rfl,hn,hal,hg⟩:=hrel
  by_cases hlt:k<A.length
  ·by_cases h40:k<40
   ·have t40:decide ((k:Int)<40)=true:=by rw[decide_eq_true_eq];omega
    obtain⟨b1,o1,rfl,-,-⟩:=h4 (by omega)
    have c1:wr.cell? ⟨b1,o1+k,none⟩=some (A[k]'hlt).v:=by
     have:=bH hg.out HA0.out rfl (i:=k) (by simpa using hlt);rw[List.getElem_map] at this;exact this
    have r1:=HA.out (A[k]'hlt) (List.getElem_mem hlt);have hbg:=HBG.out (A[k]'hlt) (List.getElem_mem hlt)
    have AL:Hid ((A[k]'hlt).l.length<=300->∀ r∈A.take (k+1),r.l.length<=300):=fun h r hr=>by
     rw[List.take_succ_eq_append_getElem hlt] at hr;rcases List.mem_append.1 hr with hr|hr
     ·exact hal.out r hr
     ·rw[List.mem_singleton.1 hr];exact h
    clear h3 h4 hal;generalize A[k]'hlt=ra at*;obtain⟨v1,l1⟩:=ra;unfold aI.rd at r1;dsimp only at*;obtain⟨_,X,cx,rfl,x1,x2,-,-⟩:=r1;unfold maxLen at x2
    obtain⟨m,hm⟩:∃ m,m=l1.length:=⟨_,rfl⟩
    rw[<-hm] at c1 AL x1 hbg;clear hm;have w1:IntKind.i64.wrap (n+1)=n+1:=IntWalk.i64_in _ (by omega);have w2:IntKind.i64.wrap (n+1+(m:Int))=n+1+(m:Int):=IntWalk.i64_in _ (by omega)
    by_cases h300:300<n+1+(m:Int)
    ·have t300:decide (300<n+1+(m:Int))=true:=decide_eq_true h300
     go_wp2;exact HR.out _ _ (fun h=>by cases h) hg.out
    ·have t300:decide (300<n+1+(m:Int))=false:=decide_eq_false h300
     go_wp2;go_roundw
     case rel=>exact⟨k+1,n+1+(m:Int),by omega,by go_num,by go_num,⟨by omega,by omega⟩,AL.out (by omega),hg.out⟩
     case measure=>simp[intOf];omega
   ·have t40:decide ((k:Int)<40)=false:=by simp;omega
    have t41:decide ((40:Int)<(A.length:Int))=true:=by rw[decide_eq_true_eq];omega
    clear h3 h4;go_wp2;exact HR.out _ _ (fun h=>by cases h) hg.out
  ·obtain rfl:k=A.length:=by omega
   have AL:=hal.out;rw[List.take_length] at AL;have HAL:=Lh AL;clear AL h3 h4 hal
   by_cases h40:40<A.length
   ·have t41:decide ((40:Int)<(A.length:Int))=true:=by rw[decide_eq_true_eq];omega
    go_wp2;exact HR.out _ _ (fun h=>by cases h) hg.out
   ·have t41:decide ((40:Int)<(A.length:Int))=false:=by rw[decide_eq_false_iff_not];omega
    go_wp2;exact HR.out _ _ (fun _=>⟨by omega,HAL.out⟩) hg.out
end Go.Proofs.YtjalimkajcjapaaGreatDoor
namespace Go.Proofs.YtjalimkajcjapaaGreatDoor
set_option maxRecDepth 100000
open Go.RowKit B
end Go.Proofs.YtjalimkajcjapaaGreatDoor
