import Derived.Test.YtjalimkajcjapaaGreatDoorChecked
import Derived.Test.YtjalimkajcjapaaGreatDoorCore
import Derived.Test.YtjalimkajcjapaaGreatDoorProg
import Derived.Ground.NamesProg
import Derived.Shelf.Unicode.ValidAny
import Derived.Test.YtjalimkajcjapaaGreatDoorRowsA
import Derived.Maps.OwnSet
import Derived.Test.YtjalimkajcjapaaGreatDoorPRightA
namespace Go.Proofs.YtjalimkajcjapaaGreatDoor
set_option maxRecDepth 100000
open Go.RowKit B
structure Val where
 k:Int
 t:ByteArray
 b:Int
instance:DecidableEq Val:=fun x y=>
 if h:x.k=y.k/\x.t=y.t/\x.b=y.b then isTrue (by obtain⟨a,b,c⟩:=x;obtain⟨d,e,f⟩:=y;simp only at h;rw[h.1,h.2.1,h.2.2]) else isFalse (by rintro rfl;exact h ⟨rfl,rfl,rfl⟩)
def Val.v (x:Val):Value:=.agg #[.int .i64 x.k,.string x.t,.int .u64 x.b]
def dP (x:Val):Val:=if x.k=1 then⟨1,x.t,0⟩ else⟨x.k,⟨#[]⟩,x.b⟩
theorem pY {tmps:Array Value}{W:World}{b:Nat}{x y z:Value}(h2:tmps.getD 2 undef=.pointer (some ⟨b,0,none⟩))(h:W.heap[b]? =some (.cells #[x,y,z] 47 (0,0))):(results Tryz.f100 tmps).run Tryz.prog W=.ok (.agg #[x,y,z]) W:=by
 have h2':tmps[2]?.getD undef=.pointer (some ⟨b,0,none⟩):=by simpa using h2
 have c0:=cell_of_row W b 0 #[x,y,z] _ (0,0) h;have c1:=cell_of_row W b 1 #[x,y,z] _ (0,0) h;have c2:=cell_of_row W b 2 #[x,y,z] _ (0,0) h;simp[results,Tryz.results100,go_sem,h2',c0,c1,c2]
set_option maxHeartbeats 1000000 in
theorem pW (x:Val)(w:World){R:Ending->World->Prop}(hR:∀ w',aB w w'->R (.returned (dP x).v) w'):
  Calls Tryz.prog 100 #[x.v] w R:=by
 have HR:=Lh hR;clear hR;obtain⟨k,t,b⟩:=x;unfold Val.v at*;dsimp only at*
 by_cases h1:k=1
 ·subst h1
  have HP:Hid (dP ⟨1,t,b⟩=⟨1,t,0⟩):=by show _=_;unfold dP;rw[if_pos rfl]
  have HR2:Hid (∀ w',aB w w'->R (.returned (.agg #[.int .i64 1,.string t,.int .u64 0])) w'):=fun w' h=>by have:=HR.out w' h;rw[HP.out] at this;exact this
  go_enter Tryz.func100,Tryz.ntmps100
  go_wp2;refine bodyPost_ret (pY (b:=w.heap.size+1) rfl ?_) rfl (HR2.out _ (((aB.refl w).al _).al _));have:=heap_alloc_new (w.alloc (.cells #[.int .i64 1,.string t,.int .u64 b] 47)) (.cells #[.int .i64 1,.string t,.int .u64 0] 47);rw[World.size_alloc] at this;exact this
 ·have t1:(k==1)=false:=by rw[beq_eq_false_iff_ne];exact h1
  have HP:Hid (dP ⟨k,t,b⟩=⟨k,⟨#[]⟩,b⟩):=by show _=_;unfold dP;rw[if_neg h1]
  have HR2:Hid (∀ w',aB w w'->R (.returned (.agg #[.int .i64 k,.string ⟨#[]⟩,.int .u64 b])) w'):=fun w' h=>by have:=HR.out w' h;rw[HP.out] at this;exact this
  clear h1;go_enter Tryz.func100,Tryz.ntmps100
  go_wp2;refine bodyPost_ret (pY (b:=w.heap.size+1) rfl ?_) rfl (HR2.out _ (((aB.refl w).al _).al _));have:=heap_alloc_new (w.alloc (.cells #[.int .i64 k,.string t,.int .u64 b] 47)) (.cells #[.int .i64 k,.string ⟨#[]⟩,.int .u64 b] 47);rw[World.size_alloc] at this;exact this
theorem nZ {s t:ByteArray}(h:s.toList=t.toList):s=t:=by
 rw[ByteArray.toList_eq,ByteArray.toList_eq] at h;exact Go.WideShapes.bytes_inj h
theorem val_ext {x y:Val}(h1:x.k=y.k)(h2:x.t=y.t)(h3:x.b=y.b):x=y:=by
 obtain⟨a,b,c⟩:=x;obtain⟨d,e,f⟩:=y;simp only at h1 h2 h3;rw[h1,h2,h3]
set_option maxHeartbeats 1000000 in
theorem rsame_any (x y:Val)(w:World){R:Ending->World->Prop}(hR:∀ w',aB w w'->R (.returned (.bool (decide (dP x=dP y)))) w'):
  Calls Tryz.prog 69 #[x.v,y.v] w R:=by
 have HR:=Lh hR;clear hR;have PX:=Lh fun W (R:Ending->World->Prop) hR=>pW x W (R:=R) hR
 have PY:=Lh fun W (R:Ending->World->Prop) hR=>pW y W (R:=R) hR
 obtain⟨k1,t1,b1⟩:=x;obtain⟨k2,t2,b2⟩:=y;unfold Val.v at*;dsimp only at*;have BX:=Lh ((aN.laid #[.int .i64 k1,.string t1,.int .u64 b1] 47 (aB.refl w)).tr ((aB.refl _).al (.cells #[.int .i64 k2,.string t2,.int .u64 b2] 47)))
 have BY:Hid (aN w (w.heap.size+1) #[.int .i64 k2,.string t2,.int .u64 b2] 47 ((w.alloc (.cells #[.int .i64 k1,.string t1,.int .u64 b1] 47)).alloc (.cells #[.int .i64 k2,.string t2,.int .u64 b2] 47))):=by
  have:=aN.laid (w:=w.alloc (.cells #[.int .i64 k1,.string t1,.int .u64 b1] 47)) #[.int .i64 k2,.string t2,.int .u64 b2] 47 ((aB.refl w).al _);rw[World.size_alloc] at this;exact this
 go_enter Tryz.func69,Tryz.ntmps69
 go_wp2_with fail
 generalize (w.alloc (.cells #[.int .i64 k1,.string t1,.int .u64 b1] 47)).alloc (.cells #[.int .i64 k2,.string t2,.int .u64 b2] 47)=wa at*;refine aE (fun W=>aN w w.heap.size #[.int .i64 k1,.string t1,.int .u64 b1] 47 W/\aN w (w.heap.size+1) #[.int .i64 k2,.string t2,.int .u64 b2] 47 W) (⟨BX.out.tr (aB.refl _).dr,BY.out.tr (aB.refl _).dr⟩) 3 [0,2,1] (by kernel_rfl) (by kernel_rfl) (by intro c a d v w h;cases d<;>exact h) ?_
 iterate 2 (apply aD;exact rfl;exact rfl;(intro W hW;have x0:=hW.1.cell 0;have x1:=hW.1.cell 1;have x2:=hW.1.cell 2;have y0:=hW.2.cell 0;have y1:=hW.2.cell 1;have y2:=hW.2.cell 2;(try clear hW);go_simp;with_reducible rfl);try simp only[Act.put,sA,sZ,sS])
 apply aG;exact rfl;exact rfl;exact rfl;intro K hK;go_simp;go_at_call 100;refine PX.out _ _ ?_;intro w1 hg1;have GX:=Lh (BX.out.tr ((aB.refl _).dr.tr hg1));have GY:=Lh (BY.out.tr ((aB.refl _).dr.tr hg1));refine hK.out _ _ ⟨GX.out,GY.out⟩ ?_;clear hK hg1
 try simp only[Act.put,sA,sZ,sS]
 refine aK ?_;simp only[List.drop_succ_cons,List.drop_zero];go_wp2_with fail
 go_at_call 100;refine PY.out _ _ ?_;intro w2 hg2;have G2:=Lh (GX.out.grow.tr hg2);clear hg2
 obtain⟨p,hp⟩:∃ p,dP ⟨k1,t1,b1⟩=p:=⟨_,rfl⟩
 obtain⟨q,hq⟩:∃ q,dP ⟨k2,t2,b2⟩=q:=⟨_,rfl⟩
 rw[hp,hq] at HR;rw[hp,hq]
 have HT:Hid (p.k=q.k->p.t.toList=q.t.toList->p.b=q.b->∀ w',aB w w'->R (.returned (.bool true)) w'):=fun h1 h2 h3 w' hg=>by
  have:=HR.out w' hg;rw[decide_eq_true (val_ext h1 (nZ h2) h3)] at this;exact this
 have HF:Hid (¬ (p.k=q.k/\p.t.toList=q.t.toList/\p.b=q.b)->∀ w',aB w w'->R (.returned (.bool false)) w'):=fun h w' hg=>by
  have:=HR.out w' hg;rw[decide_eq_false (fun e=>h (by rw[e];exact⟨rfl,rfl,rfl⟩))] at this;exact this
 clear HR hp hq;obtain⟨pk,pt,pb⟩:=p;obtain⟨qk,qt,qb⟩:=q;dsimp only at*
 by_cases e1:pk=qk
 ·by_cases e2:pt.toList=qt.toList
  ·by_cases e3:pb=qb
   ·have HT2:=Lh (HT.out e1 e2 e3)
    go_wp2;exact HT2.out _ G2.out
   ·have HF2:=Lh (HF.out (fun h=>e3 h.2.2))
    go_wp2;exact HF2.out _ G2.out
  ·have HF2:=Lh (HF.out (fun h=>e2 h.2.1))
   go_wp2;exact HF2.out _ G2.out
 ·have HF2:=Lh (HF.out (fun h=>e1 h.1))
  go_wp2;exact HF2.out _ G2.out
end Go.Proofs.YtjalimkajcjapaaGreatDoor
namespace Go.Proofs
open Go.Shelf
def Tryz.laysValid_ren : Go.Shelf.Ren := ⟨fun | 196 => 25 | 259 => 47 | n => n, fun | 9 => 9 | 4 => 4 | 3 => 3 | 5 => 5 | 12 => 12 | 119 => 86 | 0 => 0 | 46 => 90 | 139 => 89 | 138 => 88 | 53 => 40 | n => n, fun | 3 => 0 | 4 => 1 | n => n⟩
theorem Tryz.laysValid : Go.Proofs.Lays.n196 Tryz.prog Tryz.laysValid_ren := {
  mixed := by kernel_rfl
  f196 := Tryz.func25.trans (congrArg some (by kernel_rfl))
  f259 := Tryz.func47.trans (congrArg some (by kernel_rfl))
  t0 := Tryz.underlying0
  a0 := Tryz.isAgg0
  z0 := Tryz.sizeOf0
  v0 := Tryz.zeroValue0
  t3 := Tryz.underlying3
  a3 := Tryz.isAgg3
  z3 := Tryz.sizeOf3
  v3 := Tryz.zeroValue3
  t4 := Tryz.underlying4
  a4 := Tryz.isAgg4
  z4 := Tryz.sizeOf4
  v4 := Tryz.zeroValue4
  t5 := Tryz.underlying5
  a5 := Tryz.isAgg5
  z5 := Tryz.sizeOf5
  v5 := Tryz.zeroValue5
  t9 := Tryz.underlying9
  a9 := Tryz.isAgg9
  z9 := Tryz.sizeOf9
  v9 := Tryz.zeroValue9
  t12 := Tryz.underlying12
  a12 := Tryz.isAgg12
  z12 := Tryz.sizeOf12
  v12 := Tryz.zeroValue12
  t46 := Tryz.underlying90
  a46 := Tryz.isAgg90
  z46 := Tryz.sizeOf90
  v46 := Tryz.zeroValue90
  t53 := Tryz.underlying40
  a53 := Tryz.isAgg40
  z53 := Tryz.sizeOf40
  v53 := Tryz.zeroValue40
  t119 := Tryz.underlying86
  a119 := Tryz.isAgg86
  z119 := Tryz.sizeOf86
  t138 := Tryz.underlying88
  a138 := Tryz.isAgg88
  z138 := Tryz.sizeOf88
  v138 := Tryz.zeroValue88
  t139 := Tryz.underlying89
  a139 := Tryz.isAgg89
  z139 := Tryz.sizeOf89
  v139 := Tryz.zeroValue89
  g3 := by kernel_rfl
  g4 := by kernel_rfl }
end Go.Proofs
namespace Go.Proofs.YtjalimkajcjapaaGreatDoor
set_option maxRecDepth 100000
open Go.RowKit B
def kD (w:World):Prop:=Lib.Utf8Tabs (Tryz.laysValid_ren.g 3) (Tryz.laysValid_ren.g 4) w
theorem kD.gr {w w':World}(h:kD w)(hg:aB w w'):kD w':=Go.Proofs.Utf8Tabs_below h hg
theorem fF (s:ByteArray)(hs:s.size<=9223372036854775807)(w:World)(hT:kD w){R:Ending->World->Prop}(hR:∀ w',aB w w'->R (.returned (.bool (Lib.validD s.data.toList))) w'):
  Calls Tryz.prog 25 #[.string s] w R:=by
 have h:Calls Tryz.prog 25 #[.string s] w _:=Any.utf8_ValidString Tryz.laysValid s w hs hT;refine h.mono ?_;rintro e w' ⟨rfl,hb⟩;exact hR w' hb
def cU (x:Val):Bool:=if x.k=1 then Lib.validD x.t.data.toList else if x.k=2 then decide (x.b<4294967296) else if x.k=7 then decide (x.b<2) else decide (1<=x.k/\x.k<=7)
set_option maxHeartbeats 1000000 in
theorem pK (x:Val)(hs:x.t.size<=9223372036854775807)(w:World)(hT:kD w){R:Ending->World->Prop}(hR:∀ w',aB w w'->R (.returned (.bool (cU x))) w'):
  Calls Tryz.prog 48 #[x.v] w R:=by
 have HR1:∀ c,cU x=c->∀ w',aB w w'->R (.returned (.bool c)) w':=by rintro n rfl;exact hR
 have HR:=Lh HR1;clear hR HR1;obtain⟨k,t,b⟩:=x;have VA:=Lh fun W (h:kD W) (R:Ending->World->Prop) hR=>fF t hs W h (R:=R) hR
 unfold Val.v;dsimp only at*;have HT:=Lh (hT.gr ((aB.refl w).al (.cells #[.int .i64 k,.string t,.int .u64 b] 47)));have G0:=Lh ((aB.refl w).al (.cells #[.int .i64 k,.string t,.int .u64 b] 47));clear hT hs
 by_cases h1:k=1
 ·subst h1
  go_enter Tryz.func48,Tryz.ntmps48
  go_wp2_with fail
  go_at_call 25;refine VA.out _ HT.out _ ?_;intro w1 hg1;go_wp2;exact HR.out _ (by unfold cU;rw[if_pos rfl]) _ (G0.out.tr hg1)
 ·have t1:(k==1)=false:=by rw[beq_eq_false_iff_ne];exact h1
  by_cases h2:k=2
  ·subst h2
   go_enter Tryz.func48,Tryz.ntmps48
   go_wp2;refine at_ (HR.out _ rfl _ G0.out) (vW ?_)
   unfold cU;rw[if_neg h1,if_pos rfl]
   first|done|exact decide_eq_decide.2 (by constructor<;>intro h<;>(try dsimp only at h ⊢)<;>omega)
  ·have t2:(k==2)=false:=by rw[beq_eq_false_iff_ne];exact h2
   by_cases h3:k=7
   ·subst h3
    go_enter Tryz.func48,Tryz.ntmps48
    go_wp2;refine at_ (HR.out _ rfl _ G0.out) (vW ?_)
    unfold cU;rw[if_neg h1,if_neg h2,if_pos rfl]
    first|done|exact decide_eq_decide.2 (by constructor<;>intro h<;>(try dsimp only at h ⊢)<;>omega)
   ·have t3:(k==7)=false:=by rw[beq_eq_false_iff_ne];exact h3
    have HF:Hid (cU ⟨k,t,b⟩=decide (1<=k/\k<=7)):=by show _=_;unfold cU;rw[if_neg h1,if_neg h2,if_neg h3]
    by_cases h4:1<=k
    ·have t4:decide (1<=k)=true:=decide_eq_true h4
     go_enter Tryz.func48,Tryz.ntmps48
     go_wp2;refine at_ (HR.out _ HF.out _ G0.out) (vW ?_)
     first|done|exact decide_eq_decide.2 (by constructor<;>intro h<;>(try dsimp only at h ⊢)<;>omega)
    ·have t4:decide (1<=k)=false:=decide_eq_false h4
     go_enter Tryz.func48,Tryz.ntmps48
     go_wp2;refine at_ (HR.out _ HF.out _ G0.out) (vW ?_)
     exact(decide_eq_false (by omega)).symm
set_option maxHeartbeats 1000000 in
theorem oE (x:Val)(hs:x.t.size<=9223372036854775807)(w:World)(hT:kD w){R:Ending->World->Prop}(hR:∀ w',aB w w'->R (.returned (.bool (cU x))) w'):
  Calls Tryz.prog 59 #[x.v] w R:=by
 have HR1:∀ c,cU x=c->∀ w',aB w w'->R (.returned (.bool c)) w':=by rintro n rfl;exact hR
 have HR:=Lh HR1;clear hR HR1;obtain⟨k,t,b⟩:=x;have VA:=Lh fun W (h:kD W) (R:Ending->World->Prop) hR=>fF t hs W h (R:=R) hR
 unfold Val.v;dsimp only at*;have HT:=Lh (hT.gr ((aB.refl w).al (.cells #[.int .i64 k,.string t,.int .u64 b] 47)));have G0:=Lh ((aB.refl w).al (.cells #[.int .i64 k,.string t,.int .u64 b] 47));clear hT hs
 by_cases h1:k=1
 ·subst h1
  go_enter Tryz.func59,Tryz.ntmps59
  go_wp2_with fail
  go_at_call 25;refine VA.out _ HT.out _ ?_;intro w1 hg1;go_wp2;exact HR.out _ (by unfold cU;rw[if_pos rfl]) _ (G0.out.tr hg1)
 ·have t1:(k==1)=false:=by rw[beq_eq_false_iff_ne];exact h1
  by_cases h2:k=2
  ·subst h2
   go_enter Tryz.func59,Tryz.ntmps59
   go_wp2;refine at_ (HR.out _ rfl _ G0.out) (vW ?_)
   unfold cU;rw[if_neg h1,if_pos rfl]
   first|done|exact decide_eq_decide.2 (by constructor<;>intro h<;>(try dsimp only at h ⊢)<;>omega)
  ·have t2:(k==2)=false:=by rw[beq_eq_false_iff_ne];exact h2
   by_cases h3:k=7
   ·subst h3
    go_enter Tryz.func59,Tryz.ntmps59
    go_wp2;refine at_ (HR.out _ rfl _ G0.out) (vW ?_)
    unfold cU;rw[if_neg h1,if_neg h2,if_pos rfl]
    first|done|exact decide_eq_decide.2 (by constructor<;>intro h<;>(try dsimp only at h ⊢)<;>omega)
   ·have t3:(k==7)=false:=by rw[beq_eq_false_iff_ne];exact h3
    have HF:Hid (cU ⟨k,t,b⟩=decide (1<=k/\k<=7)):=by show _=_;unfold cU;rw[if_neg h1,if_neg h2,if_neg h3]
    by_cases h4:2<k
    ·have t4:decide (2<k)=true:=decide_eq_true h4
     go_enter Tryz.func59,Tryz.ntmps59
     go_wp2;refine at_ (HR.out _ HF.out _ G0.out) (vW ?_)
     first|done|exact decide_eq_decide.2 (by constructor<;>intro h<;>(try dsimp only at h ⊢)<;>omega)
    ·have t4:decide (2<k)=false:=decide_eq_false h4
     go_enter Tryz.func59,Tryz.ntmps59
     go_wp2;refine at_ (HR.out _ HF.out _ G0.out) (vW ?_)
     exact(decide_eq_false (by omega)).symm
end Go.Proofs.YtjalimkajcjapaaGreatDoor
namespace Go.Proofs.YtjalimkajcjapaaGreatDoor
set_option maxRecDepth 100000
open Go.RowKit B
structure Atr where
 key:ByteArray
 val:Val
def Atr.cells (a:Atr):List Value:=[.string a.key,.int .i64 a.val.k,.string a.val.t,.int .u64 a.val.b]
theorem Atr.cells_len (a:Atr):a.cells.length=4:=rfl
def rQ (l:List Atr):List Value:=l.flatMap Atr.cells
def Atr.ok (a:Atr):Prop:=a.key.size<=maxLen/\I64 a.val.k/\U64 a.val.b/\a.val.t.size<=maxLen
def Atr.pl (a:Atr):ByteArray×Val:=(a.key,dP a.val)
instance (a b:List Atr):Decidable (a.map Atr.pl=b.map Atr.pl):=inferInstance
theorem rI {l:List Atr}:∀ u∈rQ l,u.oneCell'=true:=by
 intro u hu;obtain⟨a,_,ha⟩:=List.mem_flatMap.1 hu;simp only[Atr.cells,List.mem_cons,List.not_mem_nil,or_false] at ha;rcases ha with rfl|rfl|rfl|rfl<;>rfl
theorem take_pl {A B:List Atr}{k:Nat}(h1:k<A.length)(h2:k<B.length)(ht:(A.take k).map Atr.pl=(B.take k).map Atr.pl)(he:A[k].pl=B[k].pl):(A.take (k+1)).map Atr.pl=(B.take (k+1)).map Atr.pl:=by
 rw[List.take_succ_eq_append_getElem h1,List.take_succ_eq_append_getElem h2,List.map_append,List.map_append,ht,List.map_singleton,List.map_singleton,he]
theorem pl_iff {a b:Atr}:a.pl=b.pl↔a.key=b.key/\dP a.val=dP b.val:=by
 unfold Atr.pl;exact⟨fun h=>Prod.mk.inj h,fun h=>by rw[h.1,h.2]⟩
theorem pl_at {A B:List Atr}{k:Nat}(h1:k<A.length)(h2:k<B.length)(h:A.map Atr.pl=B.map Atr.pl):A[k].pl=B[k].pl:=by
 have:=congrArg (fun l=>l[k]?) h;simp only[List.getElem?_map,List.getElem?_eq_getElem h1,List.getElem?_eq_getElem h2,Option.map_some,Option.some.injEq] at this;exact this
set_option maxHeartbeats 8000000 in
theorem rJ (a b:Value)(A B:List Atr)(S T:Nat->Prop)(w:World)(ha:Rd w S 4 a A.length (rQ A))(hb:Rd w T 4 b B.length (rQ B)){R:Ending->World->Prop}
  (hR:∀ w',aB w w'->R (.returned (.bool (decide (A.map Atr.pl=B.map Atr.pl)))) w'):
  Calls Tryz.prog 46 #[a,b] w R:=by
 have ha:=ha.lt (by decide);have hb:=hb.lt (by decide);obtain⟨_,X,c,rfl,h1,h2,h3,h4⟩:=ha;obtain⟨_,Y,d,rfl,k1,k2,k3,k4⟩:=hb;unfold maxLen at h2 k2;have HR:=Lh hR;clear hR
 by_cases hl:A.length=B.length
 ·have heq:((A.length:Int) != B.length)=false:=by simp;omega
  have hl:=Lh hl;go_enter Tryz.func46,Tryz.ntmps46
  go_wp2
  go_loopw [5] (fun i wr=>∃ k:Nat,k<=A.length/\i=.int .i64 k/\Hid ((A.take k).map Atr.pl=(B.take k).map Atr.pl)/\Hid (aB w wr)) (fun i _=>A.length-(intOf i).toNat)
  case atStart=>exact⟨0,Nat.zero_le _,rfl,rfl,aB.refl _⟩
  case round=>
   obtain⟨k,hk,rfl,ht,hg⟩:=hrel
   by_cases hlt:k<A.length
   ·have hlt2:k<B.length:=by rw[<-hl.out];exact hlt
    obtain⟨b1,o1,rfl,hb1,hc1⟩:=h4 (by omega);obtain⟨b2,o2,rfl,hb2,hc2⟩:=k4 (by omega);have e1:=fun W (h:aB w W)=>aL Atr.cells_len h hb1 hc1 hlt
    have e2:=fun W (h:aB w W)=>aL Atr.cells_len h hb2 hc2 hlt2
    have YS:Hid (A[k].key=B[k].key/\dP A[k].val=dP B[k].val->(A.take (k+1)).map Atr.pl=(B.take (k+1)).map Atr.pl):=fun h=>take_pl hlt hlt2 ht.out (pl_iff.2 h)
    have NO:Hid (¬ (A[k].key=B[k].key/\dP A[k].val=dP B[k].val)->decide (A.map Atr.pl=B.map Atr.pl)=false):=fun h=>decide_eq_false fun h2=>h (pl_iff.1 (pl_at hlt hlt2 h2))
    clear hc1 hc2 h4 k4 h3 k3;generalize A[k]=x at*;generalize B[k]=y at*;obtain⟨xk,xv,xt,xb⟩:=x;obtain⟨yk,yv,yt,yb⟩:=y
    have E1:Hid (∀ W,aB w W->(W.cell? ⟨b1,o1+k*4,none⟩=some (.string xk)/\W.cell? ⟨b1,o1+k*4+1,none⟩=some (.int .i64 xv)/\W.cell? ⟨b1,o1+k*4+2,none⟩=some (.string xt)/\W.cell? ⟨b1,o1+k*4+3,none⟩=some (.int .u64 xb))/\W.cell? ⟨b2,o2+k*4,none⟩=some (.string yk)/\W.cell? ⟨b2,o2+k*4+1,none⟩=some (.int .i64 yv)/\W.cell? ⟨b2,o2+k*4+2,none⟩=some (.string yt)/\W.cell? ⟨b2,o2+k*4+3,none⟩=some (.int .u64 yb)):=fun W h=>⟨⟨e1 W h 0 _ rfl,e1 W h 1 _ rfl,e1 W h 2 _ rfl,e1 W h 3 _ rfl⟩,e2 W h 0 _ rfl,e2 W h 1 _ rfl,e2 W h 2 _ rfl,e2 W h 3 _ rfl⟩
    have SV:=Lh fun W (R:Ending->World->Prop) hR=>rsame_any ⟨xv,xt,xb⟩ ⟨yv,yt,yb⟩ W (R:=R) hR
    unfold Val.v at SV;dsimp only at SV YS NO;clear e1 e2
    by_cases hkey:xk.toList=yk.toList
    ·have e0:xk=yk:=nZ hkey
     subst e0;clear hkey;go_wp2_with fail
     refine aE (aB wr.drew) ((aB.refl _)) 22 [0,1,2,3,4,5,6,7,8,9,10,11,12,13,14,15,16,17,18,19,20,21] (by kernel_rfl) (by kernel_rfl) (by intro c a d v w h;cases d<;>exact h) ?_;have GD:=Lh (hg.out.tr (aB.refl wr).dr);generalize wr.drew=wd at*
     iterate 22 (apply aD;exact rfl;exact rfl;(intro W hW;obtain⟨⟨q0,q1,q2,q3⟩,q4,q5,q6,q7⟩:=E1.out W (GD.out.tr hW);(try clear hW);go_simp;with_reducible rfl);try simp only[Act.put,sA,sZ,sS])
     refine aK ?_;simp only[List.drop_succ_cons,List.drop_zero];go_wp2_with fail
     try go_at_call 69
     refine SV.out _ _ ?_;intro w1 hg1;have GD:=Lh (GD.out.tr hg1);clear hg1 SV E1
     by_cases hv:dP ⟨xv,xt,xb⟩=dP ⟨yv,yt,yb⟩
     ·have YS:=Lh (YS.out ⟨by first|rfl|trivial,hv⟩)
      rw[decide_eq_true hv];clear hv NO;go_wp2;go_roundw
      case rel=>exact⟨k+1,by omega,by go_num,YS.out,GD.out⟩
      case measure=>simp[intOf];omega
     ·have NO:=Lh (NO.out (fun h=>hv h.2))
      rw[decide_eq_false hv];clear hv YS;go_wp2;have h:=HR.out _ GD.out;rw[NO.out] at h;exact h
    ·have NO:=Lh (NO.out (fun h=>hkey (by rw[h.1])))
     have hk2:(xk.toList==yk.toList)=false:=by rw[beq_eq_false_iff_ne];exact hkey
     clear YS SV;go_wp2_with fail
     refine aE (aB wr.drew) ((aB.refl _)) 22 [0,1,2,3,4,5,6,7,8,9,10,11,12,13,14,15,16,17,18,19,20,21] (by kernel_rfl) (by kernel_rfl) (by intro c a d v w h;cases d<;>exact h) ?_;have GD:=Lh (hg.out.tr (aB.refl wr).dr);generalize wr.drew=wd at*
     iterate 12 (apply aD;exact rfl;exact rfl;(intro W hW;obtain⟨⟨q0,q1,q2,q3⟩,q4,q5,q6,q7⟩:=E1.out W (GD.out.tr hW);(try clear hW);go_simp;with_reducible rfl);try simp only[Act.put,sA,sZ,sS])
     iterate 10 (apply bF;exact rfl;exact rfl;try simp only[Act.put,sA,sZ,sS])
     refine aK ?_;simp only[List.drop_succ_cons,List.drop_zero];go_wp2;have h:=HR.out _ GD.out;rw[NO.out] at h;exact h
   ·obtain rfl:k=A.length:=by omega
    have e:A.map Atr.pl=B.map Atr.pl:=by
     have:=ht.out;rw[List.take_length] at this;rw[this,List.take_of_length_le (by rw[hl.out];exact Nat.le_refl _)]
    have h:=HR.out;rw[decide_eq_true e] at h;have HR:=Lh h;clear h e;go_wp2;exact HR.out _ hg.out
 ·have heq:((A.length:Int) != B.length)=true:=by simp;omega
  have e:¬ A.map Atr.pl=B.map Atr.pl:=fun h=>hl (by have:=congrArg List.length h;rwa[List.length_map,List.length_map] at this)
  have h:=HR.out;rw[decide_eq_false e] at h;have HR:=Lh h;clear h e;go_enter Tryz.func46,Tryz.ntmps46
  go_wp2;exact HR.out _ (aB.refl _)
end Go.Proofs.YtjalimkajcjapaaGreatDoor
namespace Go.Proofs.YtjalimkajcjapaaGreatDoor
set_option maxRecDepth 100000
open Go.RowKit B
open Go.Maps (Keyed has)
def RH (v:Value):Option (DataW Value×List MemPlace):=some (.held v,[])
def eP (P:Program)(k:TypeId)(w:World)(b n:Nat)(f:Value->Option Value):Prop:=
 ∃ D,w.ownsMap P k RH b n D/\∀ x kl,keyOf P k x=some kl->(∀ z,D.atKey kl (.held z)=.held ((f x).getD z))/\has D kl=(f x).isSome
section
variable {P : Program} {k e t : TypeId} {w : World} {b n : Nat} {f : Value -> Option Value}
theorem eP.made (w:World)(P:Program)(k:TypeId):eP P k (w.alloc (.map #[] 0)) w.heap.size 0 (fun _=>none):=
 ⟨_,World.ownsMap_made w P k RH,fun _ _ _=>⟨fun _=>rfl,rfl⟩⟩
theorem eP.lt (h:eP P k w b n f):b<w.heap.size:=by obtain⟨D,h,_⟩:=h;exact h.lt
theorem eP.block {w':World}(h:eP P k w b n f)(hb:w'.heap[b]? =w.heap[b]?):eP P k w' b n f:=by
 obtain⟨D,⟨es,c,h1,h2,h3⟩,h4⟩:=h;exact⟨D,⟨es,c,hb.trans h1,h2,h3⟩,h4⟩
theorem eP.gr {w':World}(h:eP P k w b n f)(hg:aB w w'):eP P k w' b n f:=h.block (hg.block b h.lt)
theorem eP.look (h:eP P k w b n f)(K:Keyed P k)(ht:P.underlying t=some (.map k e)){z:Value}(hz:(zeroValue e).run P w=.ok z w){x:Value}(hx:∃ kl,keyOf P k x=some kl)(c:Bool):
  (Instr.lookup t (.map (some b)) x c).run P w=.ok (if c then .tuple #[(f x).getD z,.bool (f x).isSome] else(f x).getD z) w:=by
 obtain⟨kl,hkl⟩:=hx;obtain⟨D,h1,h2⟩:=h;obtain⟨h3,h4⟩:=h2 x kl hkl
 cases c
 ·obtain⟨v,ps,hr,hv⟩:=h1.lookup K ht hz (zd:=.held z) (zp:=[]) rfl hkl
  rw[h3 z] at hv;unfold RH at hv;injection hv with hv
  injection hv with hv _
  injection hv with hv
  rw[hr,hv];rfl
 ·obtain⟨v,ps,hr,hv⟩:=h1.look_ok K ht hz (zd:=.held z) (zp:=[]) rfl hkl
  rw[h3 z] at hv;unfold RH at hv;injection hv with hv
  injection hv with hv _
  injection hv with hv
  rw[hr,hv,h4];rfl
theorem eP.upd (h:eP P k w b n f)(K:Keyed P k)(ht:P.underlying t=some (.map k e))(hn:n<maxLen){x v:Value}(hx:∃ kl,keyOf P k x=some kl){f':Value->Option Value}(h1:f' x=some v)(h2:∀ y,y≠x->f' y=f y):
  ∃ w',(Instr.mapUpdate t (.map (some b)) x v).run P w=.ok () w'/\eP P k w' b (n+1) f'/\w.grownBy w' (some b):=by
 obtain⟨kl,hkl⟩:=hx;obtain⟨D,h3,h4⟩:=h;obtain⟨w',hr,ho,hg⟩:=h3.update K ht hn (d:=.held v) (ps:=[]) hkl rfl;refine⟨w',hr,⟨_,ho,fun y kl' hy=>?_⟩,hg⟩
 by_cases hyx:y=x
 ·subst hyx
  rw[hkl] at hy;injection hy with hy
  subst hy;rw[h1];exact⟨fun z=>Maps.atKey_put_same h3.isMap (K.key hkl) _ _,Maps.has_put_same h3.isMap (K.key hkl) _⟩
 ·have hne:kl'≠kl:=fun e=>hyx (K.inj (e▸hy) hkl)
  rw[h2 y hyx];obtain⟨h5,h6⟩:=h4 y kl' hy;exact⟨fun z=>(Maps.atKey_put_other hne _ _).trans (h5 z),(Maps.has_put_other hne _).trans h6⟩
end
theorem exec_look {P:Program}{o:Oper}{a:Act}{w:World}(t:TypeId)(m x:Operand)(c:Bool)(ho:o.op=.lookup t m x c){k e:TypeId}{b n:Nat}{f:Value->Option Value}(h:eP P k w b n f)(hm:a.eval m=.map (some b))
  (K:Keyed P k) (ht:P.underlying t=some (.map k e)) {z:Value} (hz:(zeroValue e).run P w=.ok z w) {key:Value} (hkey:a.eval x=key) (hx:∃ kl,keyOf P k key=some kl):
  (execOp a.eval o).run P w=.ok (.value (if c then .tuple #[(f key).getD z,.bool (f key).isSome] else(f key).getD z)) w:=by
 have:=h.look K ht hz hx c;subst hkey;unfold execOp;simp only[ho,hm,Sem.run_bind,Sem.run_pure,Result.andThen_ok,this]
theorem uY {P:Program}(w:World){ops:Array Oper}{rest:List Oper}{o:Oper}{a:Act}{Q:Exit->Act->World->Prop}(hg:o.guard=none)(t:TypeId)(m x:Operand)(c:Bool)(ho:o.op=.lookup t m x c){k e:TypeId}{b n:Nat}{f:Value->Option Value}(h:eP P k w b n f)(hm:a.eval m=.map (some b))
  (K:Keyed P k) (ht:P.underlying t=some (.map k e)) {z:Value} (hz:(zeroValue e).run P w=.ok z w) {key:Value} (hkey:a.eval x=key) (hx:∃ kl,keyOf P k key=some kl)
  (hK:wpList P ops Q rest (a.put o.dst (if c then .tuple #[(f key).getD z,.bool (f key).isSome] else(f key).getD z)) w):wpList P ops Q (o::rest) a w:=by
 refine wpList_plain hg fun K' hK'=>?_
 have:=exec_look t m x c ho h hm K ht hz hkey hx;unfold Oper.wp;rw[this];exact hK' _ _ hK
theorem eQ {P:Program}(w:World){ops:Array Oper}{rest:List Oper}{o:Oper}{a:Act}{Q:Exit->Act->World->Prop}(hg:o.guard=none)(t:TypeId)(m x:Operand)(ho:o.op=.lookup t m x false){k e:TypeId}{b n:Nat}{f:Value->Option Value}(h:eP P k w b n f)(hm:a.eval m=.map (some b))
  (K:Keyed P k) (ht:P.underlying t=some (.map k e)) {z:Value} (hz:(zeroValue e).run P w=.ok z w) {key:Value} (hkey:a.eval x=key) (hx:∃ kl,keyOf P k key=some kl) {v:Value} (hv:(f key).getD z=v)
  (hK:wpList P ops Q rest (a.put o.dst v) w):wpList P ops Q (o::rest) a w:=by
 refine uY w hg t m x false ho h hm K ht hz hkey hx ?_;subst hv;exact hK
theorem lQ {P:Program}(w:World){ops:Array Oper}{rest:List Oper}{o:Oper}{a:Act}{Q:Exit->Act->World->Prop}(hg:o.guard=none)(t:TypeId)(m x v:Operand)(ho:o.op=.mapUpdate t m x v){k e:TypeId}{b n:Nat}{f:Value->Option Value}(h:eP P k w b n f)(hm:a.eval m=.map (some b))
  (K:Keyed P k) (ht:P.underlying t=some (.map k e)) (hn:n<maxLen) {key val:Value} (hkey:a.eval x=key) (hval:a.eval v=val) (hx:∃ kl,keyOf P k key=some kl) {f':Value->Option Value} (h1:f' key=some val) (h2:∀ y,y≠key->f' y=f y)
  (hK:∀ w',eP P k w' b (n+1) f'->w.grownBy w' (some b)->wpList P ops Q rest (a.put o.dst undef) w'):wpList P ops Q (o::rest) a w:=by
 refine wpList_plain hg fun K' hK'=>?_
 obtain⟨w',hr,r1,r2⟩:=h.upd K ht hn hx h1 h2;subst hkey;subst hval;unfold Oper.wp;simp[execOp,ho,hm,hr,Result.andThen]
 exact hK' _ _ (hK w' r1 r2)
theorem str_key {P:Program}{k:TypeId}(hk:P.underlying k=some .string){s:ByteArray}(hs:s.size<=maxLen):∃ kl,keyOf P k (.string s)=some kl:=⟨.string s.data.toList,by simp[keyOf,hk,mapKey,hs]⟩
structure Tn (D:Nat->Prop) (w w':World):Prop where
 os:w'.os=w.os
 tape:w'.tape=w.tape
 output:w'.output=w.output
 size:w.heap.size<=w'.heap.size
 block:∀ k,k<w.heap.size->¬ D k->w'.heap[k]? =w.heap[k]?
section
variable {D E : Nat -> Prop} {w w' w'' : World}
theorem Tn.of (h:aB w w'):Tn D w w':=⟨h.os,h.tape,h.output,h.size,fun k hk _=>h.block k hk⟩
theorem Tn.by_ {row:Option Nat}(h:w.grownBy w' row)(hr:∀ k,row=some k->D k):Tn D w w':=⟨h.os,h.tape,h.output,h.size,fun k hk hd=>h.block k hk fun e=>hd (hr k e.symm)⟩
theorem Tn.tr (h:Tn D w w')(k:Tn E w' w'')(hE:∀ j,j<w.heap.size->E j->D j):Tn D w w'':=
 ⟨k.os.trans h.os,k.tape.trans h.tape,k.output.trans h.output,Nat.le_trans h.size k.size,fun j hj hd=>(k.block j (Nat.lt_of_lt_of_le hj h.size) fun e=>hd (hE j hj e)).trans (h.block j hj hd)⟩
theorem Tn.gr {w0:World}(h0:aB w0 w)(h:Tn D w w')(hD:∀ j,D j->w0.heap.size<=j):aB w0 w':=
 ⟨h.os.trans h0.os,h.tape.trans h0.tape,h.output.trans h0.output,Nat.le_trans h0.size h.size,fun j hj=>(h.block j (Nat.lt_of_lt_of_le hj h0.size) fun e=>by have:=hD j e;omega).trans (h0.block j hj)⟩
theorem Tn.into (h:Tn D w w')(hE:∀ j,D j->E j):Tn E w w':=⟨h.os,h.tape,h.output,h.size,fun k hk hd=>h.block k hk fun e=>hd (hE k e)⟩
theorem Tn.rd {S:Nat->Prop}{size n:Nat}{v:Value}{xs:List Value}(h:Rd w S size v n xs)(h0:0<size)(ht:Tn D w w')(hS:∀ b,S b->¬ D b):Rd w' S size v n xs:=by
 exact((h.and_lt h0).keep fun b hb=>ht.block b hb.2 (hS b hb.1)).into fun b hb=>hb.1
theorem Tn.own {base e size n:Nat}{v:Value}{xs:List Value}(h:w.ownsRow base e size v n xs)(ht:Tn D w w')(hne:∀ k,v.ownBlock=some k->¬ D k):w'.ownsRow base e size v n xs:=by
 refine⟨h.1,?_⟩
 rcases h.2 with hn|⟨g,cap,cur,rfl,hb,hgg,rest⟩
 ·exact .inl hn
 ·refine .inr ⟨g,cap,cur,rfl,hb,?_,rest⟩
  rw[ht.block g (Array.getElem?_eq_some_iff.1 hgg).1 (hne g rfl)];exact hgg
theorem Tn.blk {o:Obj}{b:Nat}(h:w.heap[b]? =some o)(ht:Tn D w w')(hb:¬ D b):w'.heap[b]? =some o:=(ht.block b (Array.getElem?_eq_some_iff.1 h).1 hb).trans h
theorem eP.ne_box {P:Program}{k:TypeId}{b c n:Nat}{f:Value->Option Value}(h:eP P k w b n f){cs:Array Value}{t:TypeId}{fr:Nat×Nat}(ho:w.heap[c]? =some (.cells cs t fr)):c≠b:=by
 obtain⟨_,⟨es,cc,h1,_⟩,_⟩:=h;rintro rfl;rw[h1] at ho;simp at ho
theorem bR {b1 e1 e2 s1 n c:Nat}{v:Value}{xs:List Value}(h:w.ownsRow b1 e1 s1 v n xs){cs:Array Value}{fr:Nat×Nat}(k:w.heap[c]? =some (.cells cs e2 fr))(hne:e1≠e2):v.ownBlock≠some c:=by
 rcases h.2 with ⟨rfl,_⟩|⟨g,cap,cur,rfl,_,hg,_⟩
 ·simp[Value.ownBlock]
 ·simp only[Value.ownBlock]
  intro hj;injection hj with hj
  subst hj;rw[hg] at k;simp only[Option.some.injEq,Obj.cells.injEq] at k;exact hne k.2.1
end
def ix {α:Type}[DecidableEq α](L:List α)(x:α):Nat:=L.idxOf x
open Classical in
open Classical in
noncomputable def iK {α:Type} (c:α->Value) (L:List α):Value->Option Value:=fun v=>if ∃ x∈L,c x=v then some (.bool true) else none
theorem tN {α:Type}[DecidableEq α]{c:α->Value}(hc:∀ x y,c x=c y->x=y)(L:List α)(x:α):iK c L (c x)=if x∈L then some (.bool true) else none:=by
 unfold iK
 by_cases hx:x∈L
 ·rw[if_pos ⟨x,hx,rfl⟩,if_pos hx]
 ·rw[if_neg (by rintro⟨y,hy,e⟩;exact hx (hc _ _ e▸hy)),if_neg hx]
theorem pS {α:Type}{c:α->Value}(L:List α)(x:α):iK c (L++[x]) (c x)=some (.bool true)/\∀ v,v≠c x->iK c (L++[x]) v=iK c L v:=by
 constructor
 ·unfold iK
  rw[if_pos ⟨x,by simp,rfl⟩]
 ·intro v hv
  unfold iK
  have e:(∃ y∈L++[x],c y=v)↔∃ y∈L,c y=v:=by
   constructor
   ·rintro⟨y,hy,rfl⟩
    rcases List.mem_append.1 hy with hy|hy
    ·exact⟨y,hy,rfl⟩
    ·rw[List.mem_singleton.1 hy] at hv;exact absurd rfl hv
   ·rintro⟨y,hy,h⟩;exact⟨y,by simp[hy],h⟩
  by_cases h:∃ y∈L,c y=v
  ·rw[if_pos h,if_pos (e.2 h)]
  ·rw[if_neg h,if_neg fun k=>h (e.1 k)]
theorem pT {α:Type}(c:α->Value):iK c []=fun _=>none:=by
 funext v
 unfold iK;rw[if_neg (by simp)]
end Go.Proofs.YtjalimkajcjapaaGreatDoor
namespace Go.Proofs.YtjalimkajcjapaaGreatDoor
set_option maxRecDepth 100000
open Go.RowKit B
abbrev AtP:=ByteArray×Val
abbrev FtP:=Bool×Nat×Int×List (List Pt)×List AtP
abbrev LyP:=ByteArray×Int×List FtP
def prL (kind:Int)(ps:List (List Pt)):Int:=aT kind (ps.map fun l=>⟨.slice none 0 0,l⟩)
theorem yL (kind:Int)(A:List aI):aT kind A=prL kind (A.map aI.l):=by
 unfold prL aT
 have e1:(∃ r∈A,(r.l.length:Int)<kind)↔∃ r∈(A.map aI.l).map (fun l=>(⟨.slice none 0 0,l⟩:aI)),(r.l.length:Int)<kind:=by
  constructor
  ·rintro⟨r,hr,h⟩
   exact⟨⟨.slice none 0 0,r.l⟩,by simp only[List.map_map,List.mem_map];exact⟨r,hr,rfl⟩,h⟩
  ·rintro⟨r,hr,h⟩
   simp only[List.map_map,List.mem_map] at hr;obtain⟨q,hq,rfl⟩:=hr;exact⟨q,hq,h⟩
 have e2:dL A=dL ((A.map aI.l).map fun l=>⟨.slice none 0 0,l⟩):=by
  unfold dL;rw[List.map_map,List.any_map];rfl
 simp only[List.length_map];rw[e2];simp only[e1]
def tS (l:List AtP):Bool:=decide (l.map Prod.fst).Nodup&&l.all fun a=>Lib.validD a.1.data.toList&&cU a.2
def eJ (f:FtP):Bool:=decide (prL f.2.2.1 f.2.2.2.1=0)&&(f.1||decide (f.2.1=0))&&tS f.2.2.2.2
def bC (l:List LyP):Bool:=decide (l.map Prod.fst).Nodup&&l.all fun x=>Lib.validD x.1.data.toList&&decide (1<=x.2.1/\x.2.1<=65536)&&x.2.2.all eJ
end Go.Proofs.YtjalimkajcjapaaGreatDoor
