import Derived.Test.YtjalimkajcjapaaGreatDoorRngA
namespace Go.Proofs.YtjalimkajcjapaaGreatDoor
set_option maxRecDepth 100000
open Go.RowKit B
structure Wn where
 n:Int
 d:Int
 c:Int
 up:Bool
 en:Bool
def Wn.cells (a:Wn):List Value:=[.int .i64 a.n,.int .i64 a.d,.int .i64 a.c,.bool a.up,.bool a.en]
def Wn.ok (a:Wn):Prop:=I64 a.n/\I64 a.d
def Wn.after (a b:Wn):Bool:=decide (0<cmpW a.n b.d b.n a.d)
set_option maxHeartbeats 1000000 in
theorem oB (a b:Wn)(ha:a.ok)(hb:b.ok)(w:World){R:Ending->World->Prop}(hR:∀ w',aB w w'->R (.returned (.bool (a.after b))) w'):
  Calls Tryz.prog 126 #[.agg a.cells.toArray,.agg b.cells.toArray] w R:=by
 have HR:=Lh hR;have WC:=Lh fun W (R:Ending->World->Prop) hR=>wcmp_any a.n b.d b.n a.d ha.1 hb.2 hb.1 ha.2 W (R:=R) hR
 unfold Wn.after at HR;generalize cmpW a.n b.d b.n a.d=m at*;clear hR ha hb;obtain⟨an,ad,ac,au,ae⟩:=a;obtain⟨bn,bd,bc,bu,be⟩:=b;unfold Wn.cells;dsimp only at WC ⊢
 obtain⟨wa,hwa⟩:∃ wa,wa=(w.alloc (.cells #[.int .i64 an,.int .i64 ad,.int .i64 ac,.bool au,.bool ae] 161)).alloc (.cells #[.int .i64 bn,.int .i64 bd,.int .i64 bc,.bool bu,.bool be] 161):=⟨_,rfl⟩
 have BA:Hid (aN w w.heap.size #[.int .i64 an,.int .i64 ad,.int .i64 ac,.bool au,.bool ae] 161 wa):=by
  rw[hwa];exact(aN.laid #[.int .i64 an,.int .i64 ad,.int .i64 ac,.bool au,.bool ae] 161 (aB.refl w)).tr ((aB.refl _).al _)
 have BB:Hid (aN w (w.heap.size+1) #[.int .i64 bn,.int .i64 bd,.int .i64 bc,.bool bu,.bool be] 161 wa):=by
  have:=aN.laid (w:=w.alloc (.cells #[.int .i64 an,.int .i64 ad,.int .i64 ac,.bool au,.bool ae] 161)) #[.int .i64 bn,.int .i64 bd,.int .i64 bc,.bool bu,.bool be] 161 ((aB.refl w).al _);rw[World.size_alloc] at this;rw[hwa];exact this
 have HWA:=Lh hwa;clear hwa;have a0:=BA.out.cell 0;have a1:=BA.out.cell 1;have b0:=BB.out.cell 0;have b1:=BB.out.cell 1;go_enter Tryz.func126,Tryz.ntmps126
 go_upto_region 1 with fail
 rw[<-HWA.out];clear HWA;go_wp2_with fail
 clear a0 a1 b0 b1;go_at_call 135;refine WC.out _ _ ?_;intro w1 hg1;have G1:=Lh (BA.out.grow.tr hg1);clear hg1;go_wp2;exact HR.out _ G1.out
set_option maxHeartbeats 1000000 in
theorem wT (p:Pt)(lo hi:Int)(w:World){R:Ending->World->Prop}(hR:∀ w',aB w w'->R (.returned (.bool (p.inside lo hi))) w'):Calls Tryz.prog 54 #[.agg p.cells.toArray,.int .i64 lo,.int .i64 hi] w R:=by
 have HR:∀ b,p.inside lo hi=b->∀ w',aB w w'->R (.returned (.bool b)) w':=by rintro b rfl;exact hR
 have HR:=Lh HR;clear hR;obtain⟨x,y⟩:=p;unfold Pt.cells;dsimp only
 cases h1:decide (lo<=x)
 ·go_enter Tryz.func54,Tryz.ntmps54
  go_wp2;refine HR.out _ (by simp[Pt.inside,h1]) _ ((aB.refl w).al _)
 ·cases h2:decide (x<=hi)
  ·go_enter Tryz.func54,Tryz.ntmps54
   go_wp2;refine HR.out _ (by simp[Pt.inside,h1,h2]) _ ((aB.refl w).al _)
  ·cases h3:decide (lo<=y)
   ·go_enter Tryz.func54,Tryz.ntmps54
    go_wp2;refine HR.out _ (by simp[Pt.inside,h1,h2,h3]) _ ((aB.refl w).al _)
   ·go_enter Tryz.func54,Tryz.ntmps54
    go_wp2;refine HR.out _ (by simp[Pt.inside,h1,h2,h3]) _ ((aB.refl w).al _)
set_option maxHeartbeats 1000000 in
theorem sB (p:Pt)(w:World){R:Ending->World->Prop}(hR:∀ w',aB w w'->R (.returned (.agg #[.int .i64 p.x,.int .u64 0,.int .u64 1,.int .i64 p.y,.int .u64 0,.int .u64 1])) w'):
  Calls Tryz.prog 79 #[.agg p.cells.toArray] w R:=by
 have HR:=Lh hR;clear hR;obtain⟨x,y⟩:=p;have OX:=Lh fun W (R:Ending->World->Prop) hR=>jB x W (R:=R) hR
 have OY:=Lh fun W (R:Ending->World->Prop) hR=>jB y W (R:=R) hR
 unfold Pt.cells;dsimp only at HR ⊢
 obtain⟨wa,hwa⟩:∃ wa,wa=(w.alloc (.cells #[.int .i64 x,.int .i64 y] 51)).alloc (.cells #[.int .i64 0,.int .u64 0,.int .u64 0,.int .i64 0,.int .u64 0,.int .u64 0] 132):=⟨_,rfl⟩
 have BP:Hid (aN w w.heap.size #[.int .i64 x,.int .i64 y] 51 wa):=by
  rw[hwa];exact(aN.laid #[.int .i64 x,.int .i64 y] 51 (aB.refl w)).tr ((aB.refl _).al _)
 have BR:Hid (aN w (w.heap.size+1) #[.int .i64 0,.int .u64 0,.int .u64 0,.int .i64 0,.int .u64 0,.int .u64 0] 132 wa):=by
  have:=aN.laid (w:=w.alloc (.cells #[.int .i64 x,.int .i64 y] 51)) #[.int .i64 0,.int .u64 0,.int .u64 0,.int .i64 0,.int .u64 0,.int .u64 0] 132 ((aB.refl w).al _);rw[World.size_alloc] at this;rw[hwa];exact this
 have HWA:=Lh hwa;clear hwa;go_enter Tryz.func79,Tryz.ntmps79
 go_upto_region 1 with fail
 rw[<-HWA.out];clear HWA;go_wp2_with fail
 refine aE (fun W=>aN w w.heap.size #[.int .i64 x,.int .i64 y] 51 W/\aN w (w.heap.size+1) #[.int .i64 0,.int .u64 0,.int .u64 0,.int .i64 0,.int .u64 0,.int .u64 0] 132 W) (⟨BP.out.tr (aB.refl _).dr,BR.out.tr (aB.refl _).dr⟩) 5 [0,1,3,4,2] (by kernel_rfl) (by kernel_rfl) (by intro c a d v w h;cases d<;>exact h) ?_
 iterate 4 (apply aD;exact rfl;exact rfl;(intro W hW;have p0:=hW.1.cell 0;have p1:=hW.1.cell 1;(try clear hW);go_simp;with_reducible rfl);try simp only[Act.put,sA,sZ,sS])
 have BR:=Lh (BR.out.tr (aB.refl _).dr);have BP:=Lh (BP.out.tr (aB.refl _).dr);apply aG;exact rfl;exact rfl;exact rfl;intro K hK;go_simp;go_at_call 85;refine OX.out _ _ ?_;intro w5 hg5;have BR:=Lh (BR.out.tr hg5);have BP:=Lh (BP.out.tr hg5);refine hK.out _ _ ⟨BP.out,BR.out⟩ ?_;clear hK hg5
 try simp only[Act.put,sA,sZ,sS]
 refine aK ?_;simp only[List.drop_succ_cons,List.drop_zero];go_wp2_with fail
 go_at_call 85;refine OY.out _ _ ?_;intro w5 hg5;have BR:=Lh (BR.out.tr hg5);clear hg5;have z0:=BR.out.cell 0;have g0:=BR.out.free 0;have B1:=Lh (BR.out.set 0 (.int .i64 x));have z1:=B1.out.cell 1;have g1:=B1.out.free 1;have B2:=Lh (B1.out.set 1 (.int .u64 0));have z2:=B2.out.cell 2;have g2:=B2.out.free 2;have B3:=Lh (B2.out.set 2 (.int .u64 1));have z3:=B3.out.cell 3;have g3:=B3.out.free 3;have B4:=Lh (B3.out.set 3 (.int .i64 y));have z4:=B4.out.cell 4;have g4:=B4.out.free 4
 have B5:=Lh (B4.out.set 4 (.int .u64 0));have z5:=B5.out.cell 5;have g5:=B5.out.free 5;have B6:=Lh (B5.out.set 5 (.int .u64 1));go_wp2;have k0:=B6.out.cell 0;have k1:=B6.out.cell 1;have k2:=B6.out.cell 2;have k3:=B6.out.cell 3;have k4:=B6.out.cell 4;have k5:=B6.out.cell 5
 exact bodyPost_ret (v:=.agg #[.int .i64 x,.int .u64 0,.int .u64 1,.int .i64 y,.int .u64 0,.int .u64 1]) (by simp only[sA,sZ,sS] at k0 k1 k2 k3 k4 k5;simp[results,Tryz.f79,go_sem,k0,k1,k2,k3,k4,k5]) rfl (HR.out _ B6.out.grow)
/- numbers out of range -/
def rL (l:List Int):Int:=match l.findIdx? (fun n=>!inw n) with|some i=>(i:Int)|none=>-1
def INTS (l:List Int):List Value:=l.map fun n=>.int .i64 n
theorem idxN_none {l:List Int}(h:∀ q∈l.take l.length,(!inw q)=false):rL l=-1:=by
 rw[List.take_length] at h;have:l.findIdx? (fun n=>!inw n)=none:=by rw[List.findIdx?_eq_none_iff];exact h
 simp[rL,this]
theorem idxN_some {l:List Int}{k:Nat}(hk:k<l.length)(h:∀ q∈l.take k,(!inw q)=false)(hx:(!inw l[k])=true):rL l=k:=by
 have:l.findIdx? (fun n=>!inw n)=some k:=by
  rw[List.findIdx?_eq_some_iff_getElem];refine⟨hk,hx,fun j hj=>?_⟩;rw[h l[j] (by rw[List.mem_take_iff_getElem];exact⟨j,by omega,rfl⟩)];simp
 simp[rL,this]
theorem idxN_any (l:List Int):(0<=rL l/\l.any (fun n=>!inw n)=true)∨(rL l=-1/\l.any (fun n=>!inw n)=false):=by
 unfold rL
 cases h:l.findIdx? (fun n=>!inw n) with
 |none=>
  right
  rw[List.findIdx?_eq_none_iff] at h;refine⟨rfl,?_⟩;rw[List.any_eq_false];intro p hp;simpa using h p hp
 |some i=>
  left
  refine⟨by show (0:Int)<=i;omega,?_⟩;obtain⟨hi,hx,_⟩:=List.findIdx?_eq_some_iff_getElem.1 h;rw[List.any_eq_true];exact⟨l[i],List.getElem_mem hi,hx⟩
set_option maxHeartbeats 2000000 in
theorem indexN_any (l:List Int)(v:Value)(S:Nat->Prop)(w:World)(hb:Rd w S 1 v l.length (INTS l)){R:Ending->World->Prop}
  (hR:∀ w',aB w w'->R (.returned (.int .i64 (rL l))) w'):
  Calls Tryz.prog 125 #[v,.func (.func 75) #[] #[]] w R:=by
 have HR:=Lh hR;clear hR;have hb:=hb.lt (by decide);obtain⟨_,A,c,rfl,k1,k2,k3,k4⟩:=hb;unfold maxLen at k2;go_enter Tryz.func125,Tryz.ntmps125
 go_wp2
 go_loopw [8] (fun i wr=>∃ (k:Nat),k<=l.length/\i=.int .i64 k/\Hid (∀ q∈l.take k,(!inw q)=false)/\Hid (aB w wr)) (fun i _=>l.length-(intOf i).toNat)
 case atStart=>exact⟨0,Nat.zero_le _,rfl,fun q hq=>by simp at hq,aB.refl _⟩
 case round=>
  obtain⟨k,hk,rfl,hall,hg⟩:=hrel
  by_cases hlt:k<l.length
  ·obtain⟨b,o,rfl,hS,hc⟩:=k4 (by omega)
   have c1:wr.cell? ⟨b,o+k,none⟩=some (.int .i64 (l[k]'hlt)):=dR hg.out (hc k _ (by simp[INTS,hlt]));clear hc k4 k3;have NX:Hid ((!inw (l[k]'hlt))=false->∀ q∈l.take (k+1),(!inw q)=false):=dZ hlt hall.out;have FD:Hid ((!inw (l[k]'hlt))=true->rL l=k):=idxN_some hlt hall.out;have HI:=Lh fun W (R:Ending->World->Prop) hR=>kP (l[k]'hlt) W (R:=R) hR
   generalize (!inw (l[k]'hlt))=bi at*;generalize l[k]'hlt=x at*
   cases bi with
   |false=>
    go_wp2_with (go_at_call 75;refine HI.out _ _ ?_)
    go_roundw
    case rel=>exact⟨k+1,by omega,by go_num,NX.out (by first|rfl|trivial),hg.out⟩
    case measure=>simp[intOf];omega
   |true=>
    go_wp2_with (go_at_call 75;refine HI.out _ _ ?_)
    have h:=HR.out _ hg.out;rw[FD.out (by first|rfl|trivial)] at h;exact h
  ·obtain rfl:k=l.length:=by omega
   go_wp2;have h:=HR.out _ hg.out;rw[idxN_none hall.out] at h;exact h
set_option maxHeartbeats 1000000 in
theorem rM (l:List Int)(v:Value)(S:Nat->Prop)(w:World)(hb:Rd w S 1 v l.length (INTS l)){R:Ending->World->Prop}
  (hR:∀ w',aB w w'->R (.returned (.bool (l.any fun n=>!inw n))) w'):
  Calls Tryz.prog 103 #[v,.func (.func 75) #[] #[]] w R:=by
 have HR:=Lh hR;have HX:=Lh fun (R:Ending->World->Prop) hR=>indexN_any l v S w hb (R:=R) hR
 clear hR hb
 rcases idxN_any l with ⟨h1,h2⟩|⟨h1,h2⟩
 ·rw[h2] at HR
  generalize rL l=i at*;clear h2;go_enter Tryz.func103,Tryz.ntmps103
  go_wp2_with (go_at_call 125;refine HX.out _ ?_;intro w1 hg1)
  exact HR.out _ hg1
 ·rw[h2] at HR
  rw[h1] at HX;clear h1 h2;go_enter Tryz.func103,Tryz.ntmps103
  go_wp2_with (go_at_call 125;refine HX.out _ ?_;intro w1 hg1)
  exact HR.out _ hg1
end Go.Proofs.YtjalimkajcjapaaGreatDoor
