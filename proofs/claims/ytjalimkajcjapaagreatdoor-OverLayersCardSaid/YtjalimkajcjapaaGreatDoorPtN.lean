import Derived.Test.YtjalimkajcjapaaGreatDoorFracW
import Derived.Deep.DeepMust
namespace Go.Proofs.YtjalimkajcjapaaGreatDoor
set_option maxRecDepth 100000
open Go.RowKit
structure Pt where
 x:Int
 y:Int
 deriving DecidableEq
def Pt.cells (p:Pt):List Value:=[.int .i64 p.x,.int .i64 p.y]
def Pt.ok (p:Pt):Prop:=(-9223372036854775808<=p.x/\p.x<=9223372036854775807)/\-9223372036854775808<=p.y/\p.y<=9223372036854775807
theorem Pt.cells_len (p:Pt):p.cells.length=2:=rfl
def Pts (l:List Pt):List Value:=l.flatMap Pt.cells
theorem jR (l:List Pt):(Pts l).length=l.length*2:=qS _ _ Pt.cells_len l
theorem gF (l m:List Pt):Pts (l++m)=Pts l++Pts m:=List.flatMap_append
theorem Pts_one (l:List Pt):∀ u∈Pts l,u.oneCell'=true:=by
 intro u hu;obtain⟨p,_,hp⟩:=List.mem_flatMap.1 hu;simp only[Pt.cells,List.mem_cons,List.not_mem_nil,or_false] at hp;rcases hp with rfl|rfl<;>rfl
theorem mJ {α:Type}{la lb:List α}{k:Nat}(ha:k<la.length)(hb:k<lb.length)(h:la.take k=lb.take k)(hx:la[k]=lb[k]):la.take (k+1)=lb.take (k+1):=by
 rw[List.take_succ_eq_append_getElem ha,List.take_succ_eq_append_getElem hb,h,hx]
def Pt.far (p:Pt):Bool:=!inw p.x||!inw p.y
def Pt.inside (p:Pt)(lo hi:Int):Bool:=decide (lo<=p.x)&&decide (p.x<=hi)&&decide (lo<=p.y)&&decide (p.y<=hi)
set_option maxHeartbeats 1000000 in
theorem wE (p:Pt)(w:World){R:Ending->World->Prop}(hR:∀ w',aB w w'->R (.returned (.bool p.far)) w'):Calls Tryz.prog 88 #[.agg p.cells.toArray] w R:=by
 obtain⟨x,y⟩:=p;have HR:∀ b w',(Pt.far ⟨x,y⟩)=b->aB w w'->R (.returned (.bool b)) w':=by rintro b w' rfl h;exact hR _ h
 have HR:=Lh HR;clear hR;have HI:=Lh fun W (R:Ending->World->Prop) hR=>pC x W (R:=R) hR
 have HJ:=Lh fun W (R:Ending->World->Prop) hR=>pC y W (R:=R) hR
 unfold Pt.cells;dsimp only
 cases hq:inw x
 ·rw[hq] at HI
  have hq:=Lh hq;go_enter Tryz.func88,Tryz.ntmps88
  go_wp2_with (go_at_call 89;refine HI.out _ _ ?_)
  refine HR.out _ _ (by simp[Pt.far,hq.out]) ((aB.refl w).al _)
 ·rw[hq] at HI
  have hq:=Lh hq;go_enter Tryz.func88,Tryz.ntmps88
  go_wp2_with (go_at_call 89;first|(refine HI.out _ _ ?_)|(refine HJ.out _ _ ?_))
  refine HR.out _ _ (by simp[Pt.far,hq.out]) ((aB.refl w).al _)
set_option maxHeartbeats 1000000 in
theorem qL (p:Pt)(lo hi:Int)(w:World){R:Ending->World->Prop}(hR:∀ w',aB w w'->R (.returned (.bool (p.inside lo hi))) w'):Calls Tryz.prog 36 #[.agg p.cells.toArray,.int .i64 lo,.int .i64 hi] w R:=by
 obtain⟨x,y⟩:=p;have HR:∀ b w',(Pt.inside ⟨x,y⟩ lo hi)=b->aB w w'->R (.returned (.bool b)) w':=by rintro b w' rfl h;exact hR _ h
 have HR:=Lh HR;clear hR;unfold Pt.cells;dsimp only
 cases h1:decide (lo<=x)
 ·go_enter Tryz.func36,Tryz.ntmps36
  go_wp2;refine HR.out _ _ (by simp[Pt.inside,h1]) ((aB.refl w).al _)
 ·cases h2:decide (x<=hi)
  ·go_enter Tryz.func36,Tryz.ntmps36
   go_wp2;refine HR.out _ _ (by simp[Pt.inside,h1,h2]) ((aB.refl w).al _)
  ·cases h3:decide (lo<=y)
   ·go_enter Tryz.func36,Tryz.ntmps36
    go_wp2;refine HR.out _ _ (by simp[Pt.inside,h1,h2,h3]) ((aB.refl w).al _)
   ·go_enter Tryz.func36,Tryz.ntmps36
    go_wp2;refine HR.out _ _ (by simp[Pt.inside,h1,h2,h3]) ((aB.refl w).al _)
structure Zm where
 up:Int
 x:Int
 y:Int
 b:Int
def Zm.cells (z:Zm):List Value:=[.int .i64 z.up,.int .i64 z.x,.int .i64 z.y,.int .i64 z.b]
def pw (n:Int):Int:=2^n.toNat
def zroom (z:Zm)(e:Int):Bool:=decide (1<=e)&&decide (e<=65536)&&decide (0<=z.up)&&decide (z.up<=30)&&decide (0<=z.b)&&decide (z.b<=e)
def aS (z:Zm)(e:Int):Bool:=zroom z e&&(decide (0<=z.x)&&decide (z.x<pw z.up)&&decide (0<=z.y)&&decide (z.y<pw z.up))
theorem yK (n:Int):0<pw n:=Int.pow_pos (by decide)
theorem pw_le {n:Int}(h:n<=30):pw n<=1073741824:=by
 unfold pw;have:n.toNat<=30:=by omega
 generalize n.toNat=k at*
 have h2:(2:Int)^k<=2^30:=by
  have:(2:Nat)^k<=2^30:=Nat.pow_le_pow_right (by decide) this
  exact_mod_cast this
 exact h2
theorem bA {z:Zm}{e:Int}(h:aS z e=true):1<=e/\e<=65536/\0<=z.up/\z.up<=30/\0<=z.b/\z.b<=e/\0<=z.x/\z.x<pw z.up/\0<=z.y/\z.y<pw z.up:=by
 unfold aS zroom at h;simp only[Bool.and_eq_true,decide_eq_true_eq] at h;obtain⟨⟨⟨⟨⟨⟨h1,h2⟩,h3⟩,h4⟩,h5⟩,h6⟩,⟨⟨h7,h8⟩,h9⟩,h10⟩:=h;exact⟨h1,h2,h3,h4,h5,h6,h7,h8,h9,h10⟩
def scl (z:Zm)(e:Int)(p:Pt):Pt:=⟨p.x*pw z.up-z.x*e,p.y*pw z.up-z.y*e⟩
theorem sL {a b A B:Int}(ha:-A<=a/\a<=A)(hb:0<=b/\b<=B)(hA:0<=A):-(A*B)<=a*b/\a*b<=A*B:=by
 have h1:A*b<=A*B:=Int.mul_le_mul_of_nonneg_left hb.2 hA;have h2:a*b<=A*b:=Int.mul_le_mul_of_nonneg_right ha.2 hb.1;have h3:-A*b<=a*b:=Int.mul_le_mul_of_nonneg_right ha.1 hb.1;rw[Int.neg_mul] at h3;omega
theorem gI {z:Zm}{e:Int}(hz:aS z e=true){n m:Int}(hn:-1048576<=n/\n<=1048576)(hm:0<=m/\m<pw z.up):
  (-1125899906842624<=n*pw z.up/\n*pw z.up<=1125899906842624)/\(0<=m*e/\m*e<=70368744177664):=by
 obtain⟨h1,h2,-,h4,-⟩:=bA hz;have hp:=yK z.up;have hl:=pw_le h4;have k1:=sL (A:=1048576) (B:=1073741824) (by omega:-1048576<=n/\n<=1048576) ⟨by omega,hl⟩ (by decide);have k2:=sL (A:=1073741824) (B:=65536) (a:=m) (b:=e) ⟨by omega,by omega⟩ ⟨by omega,h2⟩ (by decide);have k3:0<=m*e:=Int.mul_nonneg hm.1 (by omega);refine⟨⟨by omega,by omega⟩,k3,by omega⟩
theorem scl_far {z:Zm}{e:Int}(hz:aS z e=true){p:Pt}(hx:-1048576<=p.x/\p.x<=1048576)(hy:-1048576<=p.y/\p.y<=1048576):(scl z e p).far=false:=by
 obtain⟨h1,h2,h3,h4,h5,h6,h7,h8,h9,h10⟩:=bA hz;have a:=gI hz hx ⟨h7,h8⟩;have b:=gI hz hy ⟨h9,h10⟩;unfold scl Pt.far inw;dsimp only;have e1:decide (-4503599627370496<=p.x*pw z.up-z.x*e)=true:=decide_eq_true (by omega);have e2:decide (p.x*pw z.up-z.x*e<=4503599627370496)=true:=decide_eq_true (by omega);have e3:decide (-4503599627370496<=p.y*pw z.up-z.y*e)=true:=decide_eq_true (by omega);have e4:decide (p.y*pw z.up-z.y*e<=4503599627370496)=true:=decide_eq_true (by omega);rw[e1,e2,e3,e4];rfl
def wD (z:Zm)(e:Int)(l:List Pt):List Pt:=(l.map (scl z e)).filter fun p=>p.inside (-z.b) (e+z.b)
def ptL (z:Zm)(e:Int)(A:List (List Pt)):List (List Pt):=if wD z e (A.headD [])=[] then[] else[wD z e (A.headD [])]
end Go.Proofs.YtjalimkajcjapaaGreatDoor
namespace Go.Proofs.YtjalimkajcjapaaGreatDoor
set_option maxRecDepth 100000
open Go.RowKit Go.Lib B
section
variable {W W' : World} {b : Nat} {p : Bool} {A : Option Addr} {x c : Nat} {p' : Bool} {A' : Option Addr} {x' c' : Nat} {n d : Int} {k j : Nat} {S : Nat -> Prop}
end
end Go.Proofs.YtjalimkajcjapaaGreatDoor
namespace Go.Proofs.YtjalimkajcjapaaGreatDoor
set_option maxRecDepth 100000
open Go.RowKit B
structure aW where
 x:Fr
 y:Fr
def aW.cells (s:aW):List Value:=[.int .i64 s.x.q,.int .u64 s.x.r,.int .u64 s.x.d,.int .i64 s.y.q,.int .u64 s.y.r,.int .u64 s.y.d]
theorem aW.cells_len (s:aW):s.cells.length=6:=rfl
def aW.ok (s:aW):Prop:=s.x.ok/\s.y.ok
def aW.round (s:aW):Pt:=⟨s.x.round,s.y.round⟩
def eH (l:List aW):List Value:=l.flatMap aW.cells
theorem gM:jT Tryz.prog 58 51 (.agg #[.int .i64 0,.int .i64 0]) 2 16:=⟨by kernel_rfl,by kernel_rfl,rfl,by decide,by decide⟩
set_option maxHeartbeats 2000000 in
theorem lU (l:List aW)(v:Value)(S:Nat->Prop)(w:World)(hb:Rd w S 6 v l.length (eH l))(hok:∀ s∈l,s.ok)(hl:l.length<=100000){R:Ending->World->Prop}
  (hR:∀ r w',w'.ownsRow w.heap.size 51 2 r l.length (Pts (l.map aW.round))->aB w w'->R (.returned r) w'):
  Calls Tryz.prog 82 #[v] w R:=by
 have hb:=hb.lt (by decide);obtain⟨_,A,c,rfl,h1,h2,h3,h4⟩:=hb;unfold maxLen at h2;have HR:=Lh hR;clear hR;go_enter Tryz.func82,Tryz.ntmps82
 go_wp2
 go_loopw [8,3] (fun i s wr=>∃ (k:Nat),k<=l.length/\i=.int .i64 k/\wr.ownsRow w.heap.size 51 2 s k (Pts ((l.take k).map aW.round))/\Hid (aB w wr)) (fun i _ _=>l.length-(intOf i).toNat)
 case atStart=>exact⟨0,Nat.zero_le _,rfl,World.ownsRow_nil _ _ _ _,aB.refl _⟩
 case round=>
  obtain⟨k,hk,rfl,hown,hg⟩:=hrel
  by_cases hlt:k<l.length
  ·obtain⟨b,o,rfl,hS,hc⟩:=h4 (by omega)
   have e1:=aL aW.cells_len hg.out hS hc hlt;have hx:=hok l[k] (List.getElem_mem hlt)
   have HT:Hid (Pts ((l.take (k+1)).map aW.round)=Pts ((l.take k).map aW.round)++(Pt.mk (l[k]).x.round (l[k]).y.round).cells):=by
    show _=_;rw[List.take_succ_eq_append_getElem hlt,List.map_append,gF];simp[Pts,aW.round]
   have HO:=Lh hown;clear hc h4 h3 hok hown;generalize l[k]=x at*;obtain⟨⟨q1,r1,d1⟩,⟨q2,r2,d2⟩⟩:=x;obtain⟨hx1,hx2⟩:=hx;have c0:=e1 0 _ rfl;have c1:=e1 1 _ rfl;have c2:=e1 2 _ rfl;have c3:=e1 3 _ rfl;have c4:=e1 4 _ rfl;have c5:=e1 5 _ rfl;simp only[Nat.add_zero] at c0;clear e1;have HX:=Lh fun W (R:Ending->World->Prop) hR=>qQ ⟨q1,r1,d1⟩ W hx1 (R:=R) hR
   have HY:=Lh fun W (R:Ending->World->Prop) hR=>qQ ⟨q2,r2,d2⟩ W hx2 (R:=R) hR
   dsimp only at HT;generalize Fr.round ⟨q1,r1,d1⟩=X at*;generalize Fr.round ⟨q2,r2,d2⟩=Y at*;unfold Fr.cells at HX HY;dsimp only at HX HY;go_wp2_with fail
   have hbx:=fun W (h:aB (wr.alloc _) W)=>lP.laid (cs:=#[.int .i64 q1,.int .u64 r1,.int .u64 d1,.int .i64 q2,.int .u64 r2,.int .u64 d2]) (t:=132) hg.out h
   have HBX:=Lh hbx;have HLT:Hid (∀ kk,u3.ownBlock=some kk->kk<wr.heap.size):=fun kk hk=>(HO.out.lt kk hk).2
   clear hbx;refine hM (lP w wr.heap.size #[.int .i64 q1,.int .u64 r1,.int .u64 d1,.int .i64 q2,.int .u64 r2,.int .u64 d2]) (HBX.out _ (aB.refl _).dr) [0,1,2,4,5,3,6,7,8,9,10] (by kernel_rfl) (by kernel_rfl) rfl (by kernel_rfl) (by intro c a d v w h;cases d<;>exact h) ?_;have hB:=HBX.out _ (aB.refl (wr.alloc _)).dr;have hO:=Lh (aJ HO.out ((aB.refl wr).al (.cells #[.int .i64 q1,.int .u64 r1,.int .u64 d1,.int .i64 q2,.int .u64 r2,.int .u64 d2] 132)).dr)
   iterate 5 (refine eA (v:=?_) rfl ?_ ?_ ?_;rotate_left;(rfl);(intro W hW;obtain⟨_,_,bx⟩:=hW;go_simp;with_reducible rfl);simp only[Act.put,sA,sZ,sS])
   refine dQ rfl rfl rfl ?_;intro K hK;go_simp;go_at_call 107;refine HX.out _ _ ?_;intro w2 hg2;have hB:=hB.tr hg2;have hO:=Lh (aJ hO.out hg2);refine hK.out _ _ hB ?_;clear hK
   try simp only[Act.put,sA,sZ,sS]
   refine dQ rfl rfl rfl ?_;intro K hK;go_simp;go_at_call 107;refine HY.out _ _ ?_;intro w3 hg3;have hB:=hB.tr hg3;have hO:=Lh (aJ hO.out hg3);refine hK.out _ _ hB ?_;clear hK
   try simp only[Act.put,sA,sZ,sS]
   refine eA (v:=?_) rfl ?_ ?_ ?_;rotate_left;(rfl);(intro W hW;clear hW;go_simp;with_reducible rfl)
   try simp only[Act.put,sA,sZ,sS]
   refine dQ rfl rfl rfl ?_;intro K hK;go_simp;refine hK.out _ _ (hB.tr ((aB.refl _).al _)) ?_;clear hK
   try simp only[Act.put,sA,sZ,sS]
   refine dQ rfl rfl rfl ?_;intro K hK;refine qE _ _ rfl gM hO.out rfl 1 _ rfl (by decide) rfl (by simp[Value.oneCell']) (by omega) (hB.1.size) ?_;intro v' w' k1 k2;refine hK.out _ _ (hB.by_ k2 (cA hO.out) (by intro e;have:=HLT.out _ e.symm;omega)) ?_;clear hK;have hO2:=Lh k1;have hG2:=Lh (hB.by_ k2 (cA hO.out) (by intro e;have:=HLT.out _ e.symm;omega)).1;clear k1 k2 hB hO
   try simp only[Act.put,sA,sZ,sS]
   refine eA (v:=?_) rfl ?_ ?_ ?_;rotate_left;(rfl);(intro W hW;clear hW;go_simp;with_reducible rfl)
   try simp only[Act.put,sA,sZ,sS]
   refine uA ?_;go_wp2;go_roundw
   case rel=>exact⟨k+1,by omega,by go_num,aO hO2.out rfl (by rw[HT.out];rfl),hG2⟩
   case measure=>simp[intOf];omega
  ·obtain rfl:k=l.length:=by omega
   go_wp2;refine HR.out _ _ (aO hown rfl ?_) hg.out;rw[List.take_length]
