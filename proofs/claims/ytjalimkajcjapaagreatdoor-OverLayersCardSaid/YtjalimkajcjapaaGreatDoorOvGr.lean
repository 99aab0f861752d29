import Derived.Test.YtjalimkajcjapaaGreatDoorOvLA
namespace Go.Proofs.YtjalimkajcjapaaGreatDoor
set_option maxRecDepth 100000
open Go.RowKit B
theorem vX {w W:World}{S:Nat->Prop}{A:Option Addr}{c n:Nat}{xs:List Value}(h:Rd w S 1 (.slice A n c) n xs)(hW:aB w W){i:Nat}(hi:i<xs.length):∃ b o,A=some ⟨b,o,none⟩/\W.cell? ⟨b,o+i,none⟩=some xs[i]:=by
 obtain⟨hl,A',c',hv,_,_,_,h4⟩:=id h;injection hv with e _ e2
 subst e e2;obtain⟨b,o,e,_,_⟩:=h4 (by omega);subst e;exact⟨b,o,rfl,bH hW h rfl hi⟩
/-! ### in plain Lean -/
def cG (k:Int)(p:Pt):Pt:=⟨k*p.x,k*p.y⟩
def mU (k:Int)(f:FtP):FtP:=(f.1,f.2.1,f.2.2.1,f.2.2.2.1.map (fun l=>l.map (cG k)),f.2.2.2.2)
def eG (x:LyP)(e:Int):LyP×Int:=
 if bC [x]=false then(cM,3) else if e<1∨65536<e then(cM,1) else if e%x.2.1≠0 then(cM,8)
 else if ∃ f∈x.2.2,prL f.2.2.1 ((mU (e/x.2.1) f).2.2.2.1)≠0 then(cM,8) else((x.1,e,x.2.2.map (mU ((e/x.2.1)))),0)
theorem quo_bd {e d:Int}(h1:1<=e)(h2:e<=65536)(h3:1<=d):0<=e/d/\e/d<=65536/\0<=e%d/\e%d<=65536:=by
 obtain⟨n,rfl⟩:=Int.eq_ofNat_of_zero_le (show 0<=e by omega);obtain⟨m,rfl⟩:=Int.eq_ofNat_of_zero_le (show 0<=d by omega);have a:(n:Int)/(m:Int)=((n/m:Nat):Int):=rfl;have b:(n:Int)%(m:Int)=((n%m:Nat):Int):=rfl;have c:=Nat.div_le_self n m;have d:=Nat.mod_le n m;rw[a,b];generalize n/m=q at*;generalize n%m=r at*;omega
theorem oZ {k x:Int}(h1:0<=k)(h2:k<=65536)(h3:-1048576<=x)(h4:x<=1048576):-68719476736<=k*x/\k*x<=68719476736:=by
 have a:=Int.mul_le_mul_of_nonneg_left h4 h1;have b:=Int.mul_le_mul_of_nonneg_left h3 h1;omega
theorem wC {k:Int}{l:List Pt}{j:Nat}(hj:j<l.length):Pts ((l.take (j+1)).map (cG k))=Pts ((l.take j).map (cG k))++(cG k l[j]).cells:=by
 rw[List.take_succ_eq_append_getElem hj,List.map_append];simp[Pts]
structure PTs (base:Nat) (v:Value) (rows:List aI) (w:World):Prop where
 own:w.ownsRow base 58 1 v rows.length (rows.map aI.v)
 each:∀ r∈rows,r.rd w (fun b=>base<=b/\b<w.heap.size/\v.ownBlock≠some b)
section
variable {base : Nat} {v v' : Value} {rows : List aI} {r : aI} {w w' : World}
theorem PTs.nil:PTs base (.slice none 0 0) [] w:=⟨World.ownsRow_nil _ _ _ _,by simp⟩
theorem PTs.gr (h:PTs base v rows w)(hg:aB w w'):PTs base v rows w':=
 ⟨aJ h.own hg,fun r hr=>((h.each r hr).gr2 (by decide) hg).into fun _ hb=>⟨hb.1,Nat.lt_of_lt_of_le hb.2.1 hg.size,hb.2.2⟩⟩
theorem PTs.app (h:PTs base v rows w)(hg:w.grownBy w' v.ownBlock)(ho:w'.ownsRow base 58 1 v' (rows++[r]).length ((rows++[r]).map aI.v))(hb:v'.ownBlock=v.ownBlock∨v'.ownBlock=some (w.heap.size+1))
  (hd:r.rd w (fun b=>base<=b/\b<w.heap.size/\v.ownBlock≠some b)):PTs base v' (rows++[r]) w':=by
 refine⟨ho,fun q hq=>?_⟩
 have key:q.rd w (fun b=>base<=b/\b<w.heap.size/\v.ownBlock≠some b):=by
  rcases List.mem_append.1 hq with hq|hq
  ·exact h.each q hq
  ·rw[List.mem_singleton.1 hq];exact hd
 refine(Rd.by_ key (by decide) hg fun b hb e=>hb.2.2 e.symm).into fun b hb1=>⟨hb1.1,Nat.lt_of_lt_of_le hb1.2.1 hg.size,fun e=>?_⟩
 rcases hb with hb|hb
 ·rw[hb] at e;exact hb1.2.2 e
 ·rw[hb] at e
  injection e with e
  have:=hb1.2.1;omega
theorem PTs.fresh {l:List Pt}{x:Value}(h:PTs base v rows w)(hs:base<=w.heap.size)(ho:w'.ownsRow w.heap.size 51 2 x l.length (Pts l)):(⟨x,l⟩:aI).rd w' (fun b=>base<=b/\b<w'.heap.size/\v.ownBlock≠some b):=
 (Rd.own ho).into fun b hb=>by
  have:=ho.lt b hb.symm;exact⟨by omega,this.2,fun e=>by have:=h.own.lt b e;omega⟩
end
structure LY (w:World) (c0 c2:Array Value) (W:World):Prop where
 gr:aB w W
 bx:W.heap[w.heap.size]? =some (.cells c0 24 (0,0))
 br:W.heap[w.heap.size+1]? =some (.cells c2 24 (0,0))
theorem LY.tr {w W W':World}{c0 c2:Array Value}(h:LY w c0 c2 W)(hg:aB W W'):LY w c0 c2 W':=⟨h.gr.tr hg,aC hg h.bx,aC hg h.br⟩
theorem LY.laid (w:World)(c0 c2:Array Value):LY w c0 c2 ((w.alloc (.cells c0 24)).alloc (.cells c2 24)):=by
 refine⟨((aB.refl _).al _).al _,aC ((aB.refl _).al _) (heap_alloc_new w _),?_⟩;have:=heap_alloc_new (w.alloc (.cells c0 24)) (.cells c2 24)
 rwa[World.size_alloc] at this
theorem LY.tn {w W W':World}{c0 c2:Array Value}{bo n base:Nat}{ov:Value}{xs:List Value}(h:LY w c0 c2 W)(ho:W.ownsRow base 44 5 ov n xs)(hb:w.heap.size+1<bo)(hbase:w.heap.size<=base)(ht:Tn (fun b=>b=bo∨ov.ownBlock=some b) W W'):LY w c0 c2 W':=
 ⟨ht.gr h.gr fun j hj=>by rcases hj with rfl|hj<;>first|omega|exact Nat.le_trans hbase (ho.lt j hj).1,
  ht.blk h.bx fun e=>by rcases e with e|e<;>first|omega|exact bR ho h.bx (by decide) e,
  ht.blk h.br fun e=>by rcases e with e|e<;>first|omega|exact bR ho h.br (by decide) e⟩
set_option maxHeartbeats 32000000 in
theorem ogrow_any (x:LyR)(e:Int)(S:Nat->Prop)(w:World)(hx:x.rd w S)(hok:x.ok)(hT:kD w)(he:I64 e)(hn:x.F.length<=300)(hl:∀ f∈x.F,(f.A.length<=400/\∀ r∈f.A,r.l.length<=400)/\f.B.length<=1000){R:Ending->World->Prop}
  (hR:∀ (y:LyR) (c:Int) w',(y.pl,c)=eG x.pl e->y.rd w' (fun _=>True)->aB w w'->R (.returned (.tuple #[.agg y.cells.toArray,.int .i64 c])) w'):
  Calls Tryz.prog 8 #[.agg x.cells.toArray,.int .i64 e] w R:=by
 have HR:=Lh hR;have HL:=Lh hl;have TR:=Lh fun W (hg:aB w W) (R:Ending->World->Prop) hR=>pM _ [x] (fun _=>True) _ (lW hx hg) (fun y hy=>List.mem_singleton.1 hy▸hok) (hT.gr (hg.al (.cells x.cells.toArray 24))) (fun y hy f hf=>by rw[List.mem_singleton.1 hy] at hf;have:=(hl f hf).2;omega) (by simp) (R:=R) hR
 obtain⟨k0,hk0⟩:∃ k0,e/x.ext=k0:=⟨_,rfl⟩
 have NF:∀ h:bC ([x].map LyR.pl)=true,¬ bC [x.pl]=false:=fun h=>by rw[show bC [x.pl]=true from h];decide
 have E3:Hid (bC ([x].map LyR.pl)=false->eG x.pl e=(cM,3)):=fun h=>by unfold eG;rw[if_pos (show bC [x.pl]=false from h)]
 have E1:Hid (bC ([x].map LyR.pl)=true->(e<1∨65536<e)->eG x.pl e=(cM,1)):=fun h h2=>by unfold eG;rw[if_neg (NF h),if_pos h2]
 have E8:Hid (bC ([x].map LyR.pl)=true->¬ (e<1∨65536<e)->e%x.ext≠0->eG x.pl e=(cM,8)):=fun h h2 h3=>by unfold eG;rw[if_neg (NF h),if_neg h2,if_pos (show e%x.pl.2.1≠0 from h3)]
 have E9:Hid (bC ([x].map LyR.pl)=true->¬ (e<1∨65536<e)->¬ e%x.ext≠0->(∃ f∈x.F,prL f.f.ty ((f.A.map aI.l).map (fun l=>l.map (cG k0)))≠0)->eG x.pl e=(cM,8)):=fun h h2 h3 h4=>by
  unfold eG;rw[if_neg (NF h),if_neg h2,if_neg (show ¬ e%x.pl.2.1≠0 from h3),if_pos];obtain⟨f,hf,h5⟩:=h4;refine⟨f.pl,List.mem_map.2 ⟨f,hf,rfl⟩,?_⟩;rw[show e/x.pl.2.1=k0 from hk0];exact h5
 have E0:Hid (bC ([x].map LyR.pl)=true->¬ (e<1∨65536<e)->¬ e%x.ext≠0->(∀ f∈x.F,prL f.f.ty ((f.A.map aI.l).map (fun l=>l.map (cG k0)))=0)->eG x.pl e=((x.nm,e,(x.F.map FtR.pl).map (mU k0)),0)):=fun h h2 h3 h4=>by
  unfold eG;rw[if_neg (NF h),if_neg h2,if_neg (show ¬ e%x.pl.2.1≠0 from h3),show e/x.pl.2.1=k0 from hk0,if_neg]
  ·rfl
  ·rintro⟨f,hf,h5⟩
   obtain⟨g,hg,rfl⟩:=List.mem_map.1 (show f∈x.F.map FtR.pl from hf);exact h5 (h4 g hg)
 have RT:=Lh (lA (x:=x));have QB:Hid (1<=e->e<=65536->1<=x.ext->0<=k0/\k0<=65536/\0<=e%x.ext/\e%x.ext<=65536):=fun h1 h2 h3=>hk0▸quo_bd h1 h2 h3
 have HK:=Lh hk0;obtain⟨hx1,hx2⟩:=hx;have RFE:Hid (∀ f∈x.F,f.rd w (·<w.heap.size)):=fun f hf=>((hx2 f hf).lt2).into fun _ h=>h.2
 clear hR hok hT hl hx2 NF hk0;generalize bC ([x].map LyR.pl)=rt at*;obtain⟨nm,xe,fv,F⟩:=x;dsimp only at*;have hx1:=hx1.lt (by decide);obtain⟨_,X,cx,rfl,x1,x2,x3,x4⟩:=hx1;unfold maxLen at x2;unfold I64 at he;unfold LyR.cells at*;dsimp only at*
 obtain⟨wa,hwa⟩:∃ wa,wa=(w.alloc (.cells #[.string nm,.int .i64 xe,.slice X F.length cx] 24)).alloc (.cells #[.string ⟨#[]⟩,.int .i64 0,.slice none 0 0] 24):=⟨_,rfl⟩
 have BX:Hid (LY w #[.string nm,.int .i64 xe,.slice X F.length cx] #[.string ⟨#[]⟩,.int .i64 0,.slice none 0 0] wa):=by rw[hwa];exact LY.laid _ _ _
 go_enter Tryz.func8,Tryz.ntmps8
 go_upto_region 1 with fail
 rw[<-hwa];clear hwa;go_wp2_with (refine wpList_load_row rfl 24 _ rfl w.heap.size rfl 24 _ _ _ BX.out.bx Tryz.underlying24 rfl (by kernel_rfl) ?_)
 go_at_call 14;refine TR.out wa BX.out.gr _ ?_;intro c w1 hc hg1;have BX:=Lh (BX.out.tr (((aB.refl wa).al _).tr hg1));clear hg1 TR
 cases c with
 |false=>
  have HB:Hid (rt=false):=by cases rt with|false=>rfl|true=>exact absurd (hc.2 rfl) (by decide)
  clear hc;go_wp2_with (refine wpList_store_row rfl 24 _ _ rfl (w.heap.size+1) #[.string ⟨#[]⟩,.int .i64 0,.slice none 0 0] rfl rfl 24 _ BX.out.br (by kernel_rfl) rfl (by simp[Value.oneCell']) ?_)
  refine bodyPost_ret (v:=.tuple #[.agg #[.string ⟨#[]⟩,.int .i64 0,.slice none 0 0],.int .i64 3]) ?_ rfl (HR.out ⟨⟨#[]⟩,0,.slice none 0 0,[]⟩ 3 _ (by rw[E3.out HB.out];rfl) (dJ _) (BX.out.gr.row2 (show w.heap.size<=w.heap.size+1 by omega) _));exact aQ rfl _ _ (w.heap.size+1) _ _ _ _ rfl (setRow_heap _ _ _ _ _ _ BX.out.br) rfl rfl Tryz.underlying24 (by kernel_rfl)
 |true=>
  have HB:=Lh (hc.1 rfl);clear hc E3
  by_cases hlo:e<1
  ·have WHY:=Lh (E1.out HB.out (.inl hlo))
   go_wp2_with (refine wpList_store_row rfl 24 _ _ rfl (w.heap.size+1) #[.string ⟨#[]⟩,.int .i64 0,.slice none 0 0] rfl rfl 24 _ BX.out.br (by kernel_rfl) rfl (by simp[Value.oneCell']) ?_)
   refine bodyPost_ret (v:=.tuple #[.agg #[.string ⟨#[]⟩,.int .i64 0,.slice none 0 0],.int .i64 1]) ?_ rfl (HR.out ⟨⟨#[]⟩,0,.slice none 0 0,[]⟩ 1 _ (by rw[WHY.out];rfl) (dJ _) (BX.out.gr.row2 (show w.heap.size<=w.heap.size+1 by omega) _));exact aQ rfl _ _ (w.heap.size+1) _ _ _ _ rfl (setRow_heap _ _ _ _ _ _ BX.out.br) rfl rfl Tryz.underlying24 (by kernel_rfl)
  by_cases hhi:65536<e
  ·have WHY:=Lh (E1.out HB.out (.inr hhi))
   go_wp2_with (refine wpList_store_row rfl 24 _ _ rfl (w.heap.size+1) #[.string ⟨#[]⟩,.int .i64 0,.slice none 0 0] rfl rfl 24 _ BX.out.br (by kernel_rfl) rfl (by simp[Value.oneCell']) ?_)
   refine bodyPost_ret (v:=.tuple #[.agg #[.string ⟨#[]⟩,.int .i64 0,.slice none 0 0],.int .i64 1]) ?_ rfl (HR.out ⟨⟨#[]⟩,0,.slice none 0 0,[]⟩ 1 _ (by rw[WHY.out];rfl) (dJ _) (BX.out.gr.row2 (show w.heap.size<=w.heap.size+1 by omega) _));exact aQ rfl _ _ (w.heap.size+1) _ _ _ _ rfl (setRow_heap _ _ _ _ _ _ BX.out.br) rfl rfl Tryz.underlying24 (by kernel_rfl)
  have EB:Hid (¬ (e<1∨65536<e)):=by show ¬ _;omega
  obtain⟨⟨xl,xh⟩,prs⟩:=RT.out HB.out;have PRS:=Lh prs;obtain⟨ql,qh,ml,mh⟩:=QB.out (by omega) (by omega) xl
  try dsimp only at xl xh
  clear E1 RT QB prs;have y1:=cell_of_row _ w.heap.size 1 _ _ (0,0) BX.out.bx
  by_cases hm:e%xe=0
  case neg=>
   have WHY:=Lh (E8.out HB.out EB.out hm);have t1:(e%xe != 0)=true:=by rw[bne_iff_ne];exact hm
   go_upto_region 6 with fail
   clear y1 HK;go_wp2_with (refine wpList_store_row rfl 24 _ _ rfl (w.heap.size+1) #[.string ⟨#[]⟩,.int .i64 0,.slice none 0 0] rfl rfl 24 _ BX.out.br (by kernel_rfl) rfl (by simp[Value.oneCell']) ?_)
   refine bodyPost_ret (v:=.tuple #[.agg #[.string ⟨#[]⟩,.int .i64 0,.slice none 0 0],.int .i64 8]) ?_ rfl (HR.out ⟨⟨#[]⟩,0,.slice none 0 0,[]⟩ 8 _ (by rw[WHY.out];rfl) (dJ _) (BX.out.gr.row2 (show w.heap.size<=w.heap.size+1 by omega) _));exact aQ rfl _ _ (w.heap.size+1) _ _ _ _ rfl (setRow_heap _ _ _ _ _ _ BX.out.br) rfl rfl Tryz.underlying24 (by kernel_rfl)
  case pos=>
   have E9:=Lh (E9.out HB.out EB.out (by rw[hm];simp));have E0:=Lh (E0.out HB.out EB.out (by rw[hm];simp));have t1:(e%xe != 0)=false:=by rw[hm];rfl
   have KB:Hid (0<=k0/\k0<=65536):=⟨ql,qh⟩
   clear E8 HB EB;have y0:=cell_of_row _ w.heap.size 0 _ _ (0,0) BX.out.bx;go_upto_region 8 with fail
   clear t1 hm
   try rw[HK.out]
   clear HK;go_upto_region 9 with fail
   have LBO:Hid (w.heap.size+1<w1.heap.size):=lt_of_block BX.out.br;have GL:Hid (aB w1 (w1.alloc (.cells #[.string nm,.int .i64 e,.slice none 0 0] 24))):=(aB.refl _).al _;have BO:Hid ((w1.alloc (.cells #[.string nm,.int .i64 e,.slice none 0 0] 24)).heap[w1.heap.size]? =some (.cells #[.string nm,.int .i64 e,.slice none 0 0] 24 (0,0))):=heap_alloc_new _ _;have BX:=Lh (BX.out.tr GL.out);clear GL y0 y1;generalize w1.alloc (.cells #[.string nm,.int .i64 e,.slice none 0 0] 24)=w3 at*;generalize w1.heap.size=bo at*
   have y2:=cell_of_row _ w.heap.size 2 _ _ (0,0) BX.out.bx;go_wp2_with fail
   clear y2
   go_loopw [48] (fun i wr=>∃ k:Nat,k<=F.length/\i=.int .i64 k/\Hid (∃ ov F',F'.map FtR.pl=((F.take k).map FtR.pl).map (mU k0)/\F'.length=k/\(∀ f∈F.take k,prL f.f.ty ((f.A.map aI.l).map (fun l=>l.map (cG k0)))=0)/\wr.heap[bo]? =some (.cells #[.string nm,.int .i64 e,ov] 24 (0,0))/\OS w.heap.size (fun b=>b=w.heap.size+1∨b=bo) ov F' wr)/\Hid (LY w #[.string nm,.int .i64 xe,.slice X F.length cx] #[.string ⟨#[]⟩,.int .i64 0,.slice none 0 0] wr)) (fun i _=>F.length-(intOf i).toNat)
   case atStart=>exact⟨0,Nat.zero_le _,rfl,⟨_,[],rfl,rfl,by simp,BO.out,OS.nil⟩,BX.out⟩
   case round=>
    clear BO BX;obtain⟨k,hk,rfl,hP,hB⟩:=hrel;have BX:=Lh hB.out;obtain⟨ov,F',q1,q2,q0,q3,q4⟩:=hP.out;clear hP hB;have HO:=Lh q3;have HS:=Lh q4;have Q1:=Lh q1;have Q0:=Lh q0;have Q2:=Lh q2;clear q0 q1 q2 q3 q4
    skip
    by_cases hlt:k<F.length
    ·obtain⟨b1,o1,rfl,hb1,hc1⟩:=x4 (by omega)
     have e1:=aL FtR.cells_len BX.out.gr hb1 hc1 hlt;have RJ:=Lh (RFE.out F[k] (List.getElem_mem hlt));have LJ:=HL.out F[k] (List.getElem_mem hlt);have PJ:=Lh (PRS.out F[k] (List.getElem_mem hlt));have E9K:Hid (prL F[k].f.ty ((F[k].A.map aI.l).map (fun l=>l.map (cG k0)))≠0->eG (LyR.pl ⟨nm,xe,.slice (some ⟨b1,o1,none⟩) F.length cx,F⟩) e=(cM,8)):=fun h=>E9.out ⟨F[k],List.getElem_mem hlt,h⟩
     have QK:Hid (prL F[k].f.ty ((F[k].A.map aI.l).map (fun l=>l.map (cG k0)))=0->∀ f∈F.take (k+1),prL f.f.ty ((f.A.map aI.l).map (fun l=>l.map (cG k0)))=0):=fun h f hf=>by
      rw[List.take_succ_eq_append_getElem hlt] at hf;rcases List.mem_append.1 hf with hf|hf
      ·exact Q0.out f hf
      ·rw[List.mem_singleton.1 hf];exact h
     have TJ:Hid (((F.take (k+1)).map FtR.pl).map (mU k0)=((F.take k).map FtR.pl).map (mU k0)++[mU k0 F[k].pl]):=by
      show _=_;rw[List.take_succ_eq_append_getElem hlt,List.map_append,List.map_append];rfl
     clear hc1 Q0;generalize F[k]=f at*;obtain⟨p1,p2,p3,p4,hp,ha⟩:=RJ.out.fm2;obtain⟨⟨h,id,ty,pv,av⟩,A,B⟩:=f;dsimp only at hp ha LJ PJ E9K QK;subst hp ha;have AIN:=Lh (fW PJ.out).2.2;obtain⟨⟨la1,la2⟩,lb⟩:=LJ;have LA2:=Lh la2;have u0:=e1 0 _ rfl;have u1:=e1 1 _ rfl;have u2:=e1 2 _ rfl;have u3:=e1 3 _ rfl;have u4:=e1 4 _ rfl;simp only[Nat.add_zero] at u0;clear e1 la2 PJ;go_upto_region 12 with fail
     have GR:Hid (aB wr (wr.alloc (.cells #[.bool h,.int .u64 id,.int .i64 ty,.slice p1 A.length p2,.slice p3 B.length p4] 44))):=(aB.refl _).al _;have BF:Hid ((wr.alloc (.cells #[.bool h,.int .u64 id,.int .i64 ty,.slice p1 A.length p2,.slice p3 B.length p4] 44)).heap[wr.heap.size]? =some (.cells #[.bool h,.int .u64 id,.int .i64 ty,.slice p1 A.length p2,.slice p3 B.length p4] 44 (0,0))):=heap_alloc_new _ _;clear u0 u1 u2 u3 u4;generalize wr.alloc (.cells #[.bool h,.int .u64 id,.int .i64 ty,.slice p1 A.length p2,.slice p3 B.length p4] 44)=wb at*
     obtain⟨gb,hgb⟩:∃ gb,wr.heap.size=gb:=⟨_,rfl⟩
     rw[hgb] at BF;rw[hgb];have EG:=Lh hgb
     have NB:Hid (∀ b,(b=w.heap.size+1∨b=bo)->w.heap.size<=b/\b<wr.heap.size):=fun b hb=>by
      have:=lt_of_block HO.out;have:=lt_of_block BX.out.br;have:=LBO.out;rcases hb with rfl|rfl<;>omega
     have SG:Hid (w.heap.size<=gb):=by have:=BX.out.gr.size;have:=EG.out;show _<=_;omega
     have LG:Hid (gb<wb.heap.size):=lt_of_block BF.out;have LB0:Hid (gb<wb.heap.size):=LG.out;have BXr:=Lh BX.out;clear hgb BX;have f4:=cell_of_row _ gb 4 _ _ _ BF.out;go_wp2_with fail
     go_at_call 21;refine gE B.length (rQ B) _ (·<w.heap.size) wb (RJ.out.2.2.gr2 (by decide) (BXr.out.gr.tr GR.out)) (by omega) rI ?_;intro cv w5 hO5 hg5;have AV:Hid (Rd w5 (fun b=>wb.heap.size<=b) 4 cv B.length (rQ B)):=Rd.own_from hO5;obtain⟨C1,C2,rfl⟩:=aH hO5;have BF:=Lh (aC hg5 BF.out);have c4:=cell_of_row _ gb 4 _ _ _ BF.out;have g4:=frozen_of_row _ gb 4 _ _ BF.out;have BF6:=Lh (aF BF.out 4 (.slice C1 B.length C2));simp only[sA,sZ,sS] at BF6
     have GR:=Lh ((GR.out.tr hg5).set (p:=⟨gb,4,none⟩) (by have:=EG.out;show wr.heap.size<=gb;omega) (.slice C1 B.length C2));have AV:=Lh (AV.out.set (B:=gb) (j:=4) (fun b hb=>by have:=LG.out;omega) (.slice C1 B.length C2));clear hO5 hg5 BF f4;go_upto_region 13 with fail
     clear c4 g4;have LG:Hid (gb<(w5.setCell ⟨gb,4,none⟩ (.slice C1 B.length C2)).heap.size):=lt_of_block BF6.out;generalize w5.setCell ⟨gb,4,none⟩ (.slice C1 B.length C2)=w6 at*;have c3:=cell_of_row _ gb 3 _ _ _ BF6.out;go_wp2_with fail
     clear c3
     go_loopw [59,10] (fun i v wr=>∃ m:Nat,m<=A.length/\i=.int .i64 m/\Hid (∃ rows:List aI,rows.map aI.l=((A.take m).map aI.l).map (fun l=>l.map (cG k0))/\rows.length=m/\PTs w6.heap.size v rows wr)/\Hid (aB w6 wr)) (fun i _ _=>A.length-(intOf i).toNat)
     case atStart=>exact⟨0,Nat.zero_le _,rfl,⟨[],rfl,rfl,PTs.nil⟩,aB.refl _⟩
     case round=>
      obtain⟨m,hm,rfl,hq,hg⟩:=hrel;obtain⟨rows,r1,r2,r3⟩:=hq.out;have PS:=Lh r3;have R1:=Lh r1;have R2:=Lh r2;have G6:=Lh hg.out;have GI:=Lh ((BXr.out.gr.tr GR.out).tr G6.out);clear hq hg r1 r2 r3
      rename World=>w7
      by_cases hml:m<A.length
      ·obtain⟨b2,o2,hp1,c0⟩:=vX RJ.out.1 GI.out (i:=m) (by simpa using hml)
       subst hp1;rw[List.getElem_map] at c0;have RR:=RJ.out.2.1 A[m] (List.getElem_mem hml);have LR:=LA2.out A[m] (List.getElem_mem hml);have AB:=Lh (AIN.out A[m] (List.getElem_mem hml))
       have TM:Hid (((A.take (m+1)).map aI.l).map (fun l=>l.map (cG k0))=((A.take m).map aI.l).map (fun l=>l.map (cG k0))++[A[m].l.map (cG k0)]):=by
        show _=_;rw[List.take_succ_eq_append_getElem hml,List.map_append,List.map_append];rfl
       generalize A[m]=r at*;obtain⟨rv,rl⟩:=r;unfold aI.rd at RR;dsimp only at RR LR AB TM c0;obtain⟨_,Y,cy,rfl,y1,y2,y3,y4⟩:=RR;unfold maxLen at y2;go_wp2_with fail
       clear c0
       go_loopw [65,13] (fun i v wr=>∃ j:Nat,j<=rl.length/\i=.int .i64 j/\Hid (wr.ownsRow w7.heap.size 51 2 v j (Pts ((rl.take j).map (cG k0))))/\Hid (aB w7 wr)) (fun i _ _=>rl.length-(intOf i).toNat)
       case atStart=>exact⟨0,Nat.zero_le _,rfl,World.ownsRow_nil _ _ _ _,aB.refl _⟩
       case round=>
        obtain⟨j,hj,rfl,ho,hg⟩:=hrel;have OW:=Lh ho.out;have G7:=Lh hg.out;obtain⟨T1,T2,hT⟩:=aH OW.out;subst hT;clear ho hg
        by_cases hjl:j<rl.length
        ·obtain⟨b3,o3,rfl,hS3,hc3⟩:=y4 (by omega)
         have e3:=fun W (h:aB w W)=>aL Pt.cells_len h hS3 hc3 hjl
         have AP:=AB.out rl[j] (List.getElem_mem hjl);have PM:Hid (Pts ((rl.take (j+1)).map (cG k0))=Pts ((rl.take j).map (cG k0))++[.int .i64 (k0*rl[j].x),.int .i64 (k0*rl[j].y)]):=wC hjl;generalize rl[j]=p at*;obtain⟨px,py⟩:=p;dsimp only at AP PM;have kb:=KB.out;have m0:=oZ kb.1 kb.2 AP.1.1 AP.1.2;have m1:=oZ kb.1 kb.2 AP.2.1 AP.2.2;have q0:IntKind.i64.wrap (px*k0)=k0*px:=by rw[Int.mul_comm];exact IntWalk.i64_in _ (by omega)
         have q1:IntKind.i64.wrap (py*k0)=k0*py:=by rw[Int.mul_comm];exact IntWalk.i64_in _ (by omega)
         have d0:=e3 _ (GI.out.tr G7.out) 0 _ rfl;have d1:=e3 _ (GI.out.tr G7.out) 1 _ rfl;simp only[Nat.add_zero] at d0;clear e3 hc3 AP m0 m1 kb;go_upto_region 21 with fail
         have GP:Hid (aB wr (wr.alloc (.cells #[.int .i64 px,.int .i64 py] 51))):=(aB.refl _).al _;have BP:Hid ((wr.alloc (.cells #[.int .i64 px,.int .i64 py] 51)).heap[wr.heap.size]? =some (.cells #[.int .i64 px,.int .i64 py] 51 (0,0))):=heap_alloc_new _ _;clear d0 d1;generalize wr.alloc (.cells #[.int .i64 px,.int .i64 py] 51)=w8 at*;generalize wr.heap.size=pb at*;have G8:=Lh (G7.out.tr GP.out);have OW8:=Lh (aJ OW.out GP.out);have z0:=cell_of_row _ pb 0 _ _ _ BP.out;have z1:=cell_of_row _ pb 1 _ _ _ BP.out;clear OW G7 GP BP
         go_wp2_with (at_builtin;refine dU rfl _ _ rfl gM OW8.out rfl 1 _ rfl _ rfl (by decide) rfl (by simp[Value.oneCell']) (by omega) G8.out.size ?_;intro v9 w9 hown9 hgr9 hb9;have OW9:Hid (w9.ownsRow w7.heap.size 51 2 v9 (j+1) (Pts ((rl.take (j+1)).map (cG k0)))):=aO hown9 rfl PM.out.symm;have G9:=Lh (bK G8.out hgr9 (cA OW8.out));clear hown9 hgr9 hb9 OW8 G8)
         go_roundw
         case rel=>exact⟨j+1,by omega,by go_num,OW9.out,G9.out⟩
         case measure=>simp[intOf];omega
        ·obtain rfl:j=rl.length:=by omega
         rw[List.take_length] at OW;have SZ6:Hid (w6.heap.size<=w7.heap.size):=G6.out.size;have RN:=Lh (PS.out.fresh SZ6.out (l:=rl.map (cG k0)) (aO OW.out (List.length_map _).symm rfl));have PSn:=Lh (PS.out.gr G7.out);have G8:=Lh (G6.out.tr G7.out);obtain⟨V1,V2,hV⟩:=aH PSn.out.own;subst hV;clear OW PS
         go_wp2_with (at_builtin;refine dU rfl _ _ rfl fY PSn.out.own rfl 1 _ rfl _ rfl (by decide) rfl (by simp[Value.oneCell']) (by have:=R2.out;omega) G8.out.size ?_;intro v9 w9 hown9 hgr9 hb9;have PS9:=Lh (PSn.out.app hgr9 (aO hown9 (by simp) (by simp)) hb9 RN.out);have G9:=Lh (bK G8.out hgr9 (cA PSn.out.own));clear hown9 hgr9 hb9 PSn G8 RN)
         go_roundw
         case rel=>exact⟨m+1,by omega,by go_num,⟨_,by rw[List.map_append,R1.out,TM.out];rfl,by rw[List.length_append,R2.out];rfl,PS9.out⟩,G9.out⟩
         case measure=>simp[intOf];omega
      ·obtain rfl:m=A.length:=by omega
       rw[List.take_length] at R1;have PRE:Hid (aT ty rows=prL ty ((A.map aI.l).map (fun l=>l.map (cG k0)))):=by show _=_;rw[yL,R1.out]
       have c2:=cell_of_row _ gb 2 _ _ _ (aC G6.out BF6.out);obtain⟨T1,T2,hT⟩:=aH PS.out.own;subst hT;have PR:=Lh fun (R:Ending->World->Prop) hR=>eW ty (.slice T1 rows.length T2) rows _ _ w7 (Rd.own PS.out.own) (fun r hr=>PS.out.each r hr) (R:=R) hR
       go_wp2_with fail
       go_at_call 22;refine PR.out _ ?_;intro w9 hg9;have PS9:=Lh (PS.out.gr hg9);have G9:=Lh (G6.out.tr hg9);have GR9:=Lh (GR.out.tr G9.out);have BF9:=Lh (aC G9.out BF6.out);clear hg9 PR PS G6 c2 GI
       by_cases hpr:aT ty rows=0
       ·have FQ:=Lh (QK.out (PRE.out▸hpr))
        rw[hpr];clear E9K QK PRE hpr;have c3:=cell_of_row _ gb 3 _ _ _ BF9.out;have g3:=frozen_of_row _ gb 3 _ _ BF9.out;have BF10:=Lh (aF BF9.out 3 (.slice T1 rows.length T2));simp only[sA,sZ,sS] at BF10;have GR10:=Lh (GR9.out.set (p:=⟨gb,3,none⟩) (by have:=EG.out;show _<=gb;omega) (.slice T1 rows.length T2));have TS:=Lh (kU w9 gb 3 (.slice T1 rows.length T2));go_upto_region 28 with fail
        clear c3 g3
        have XR:Hid ((⟨⟨h,id,ty,.slice T1 rows.length T2,.slice C1 B.length C2⟩,rows,B⟩:FtR).rd w9 (fun b=>(gb<b∨b<w.heap.size)/\b≠gb)):=by
         have lg:=LG.out;have lb0:=LB0.out;have sg:=SG.out;exact⟨(Rd.own_from PS9.out.own).into fun b (hb:w6.heap.size<=b)=>⟨.inl (by omega),by omega⟩,fun r hr=>Rd.into (PS9.out.each r hr) fun b hb=>(by obtain⟨hb,-,-⟩:=hb;exact⟨.inl (by omega),by omega⟩),(AV.out.gr2 (by decide) G9.out).into fun b (hb:wb.heap.size<=b)=>⟨.inl (by omega),by omega⟩⟩
        have XR:=Lh ((XR.out.tn TS.out fun b hb e=>hb.2 e).into fun b hb=>(hb.1.imp Nat.le_of_lt (fun h=>h):gb<=b∨b<w.heap.size));have XN:=Lh (HS.out.fresh NB.out (by rw[EG.out];exact XR.out));generalize w9.setCell ⟨gb,3,none⟩ (.slice T1 rows.length T2)=w10 at*;have BX:=Lh (BXr.out.tr GR10.out);have HO:=Lh (aC GR10.out HO.out);have HS:=Lh (HS.out.gr GR10.out);clear BF9 GR9 G9 PS9 AV TS XR GR10 GR BXr;obtain⟨O1,O2,hov⟩:=aH HS.out.own;subst hov;have o2':=cell_of_row _ bo 2 _ _ _ HO.out
        have SZ:w.heap.size<=w10.heap.size:=BX.out.gr.size
        go_wp2_with (first|(refine wpList_load_row rfl 44 _ rfl gb rfl 44 _ _ _ BF10.out Tryz.underlying44 rfl (by kernel_rfl) ?_)|(at_builtin;refine dU rfl _ _ rfl xH HS.out.own rfl 1 _ rfl _ rfl (by decide) rfl (by simp[Value.oneCell']) (by have:=Q2.out;omega) SZ ?_;intro v7 w7' hown7 hgr7 hb7;obtain⟨A7,k7,hv7⟩:=aH hown7;subst hv7;have S7:=Lh (HS.out.app (g:=⟨⟨h,id,ty,.slice T1 rows.length T2,.slice C1 B.length C2⟩,rows,B⟩) hgr7 (aO hown7 (by simp) (by simp[Fts,FtR.cells,Ft.cells])) hb7 XN.out);have BX7:=Lh (BX.out.tn HS.out.own LBO.out (Nat.le_refl _) (Tn.by_ (D:=fun b=>b=bo∨(Value.slice O1 F'.length O2).ownBlock=some b) hgr7 fun k hk=>.inr hk));have HO7:=Lh ((hgr7.block bo (lt_of_block HO.out) (fun e=>bR HS.out.own HO.out (by decide) e.symm)).trans HO.out);have g7:=frozen_of_row _ bo 2 _ _ HO7.out;have c7:=cell_of_row _ bo 2 _ _ _ HO7.out;have NE7:=Lh (qM (bR HS.out.own HO.out (by decide)) (lt_of_block HO.out) hb7);clear hown7 hgr7 hb7 o2'))
        have BX8:=Lh (BX7.out.tn S7.out.own LBO.out (Nat.le_refl _) ((kU w7' bo 2 (.slice A7 (F'.length+1) k7)).into fun j hj=>.inl hj));go_roundw
        case rel=>exact⟨k+1,by omega,by go_num,⟨(.slice A7 (F'.length+1) k7),F'++[⟨⟨h,id,ty,.slice T1 rows.length T2,.slice C1 B.length C2⟩,rows,B⟩],by rw[List.map_append,Q1.out,TJ.out];unfold mU FtR.pl;dsimp only;rw[<-R1.out];rfl,by rw[List.length_append,Q2.out];rfl,FQ.out,aF HO7.out 2 (.slice A7 (F'.length+1) k7),S7.out.set NE7.out (.inr rfl)⟩,BX8.out⟩
        case measure=>simp[intOf];omega
       ·have WHY:=Lh (E9K.out (PRE.out▸hpr))
        have BX:=Lh (BXr.out.tr GR9.out);clear E9K QK PRE;generalize aT ty rows=pr at*;go_wp2_with (refine wpList_store_row rfl 24 _ _ rfl (w.heap.size+1) #[.string ⟨#[]⟩,.int .i64 0,.slice none 0 0] rfl rfl 24 _ BX.out.br (by kernel_rfl) rfl (by simp[Value.oneCell']) ?_)
        refine bodyPost_ret (v:=.tuple #[.agg #[.string ⟨#[]⟩,.int .i64 0,.slice none 0 0],.int .i64 8]) ?_ rfl (HR.out ⟨⟨#[]⟩,0,.slice none 0 0,[]⟩ 8 _ (by rw[WHY.out];rfl) (dJ _) (BX.out.gr.row2 (show w.heap.size<=w.heap.size+1 by omega) _));exact aQ rfl _ _ (w.heap.size+1) _ _ _ _ rfl (setRow_heap _ _ _ _ _ _ BX.out.br) rfl rfl Tryz.underlying24 (by kernel_rfl)
    ·obtain rfl:k=F.length:=by omega
     rw[List.take_length] at Q1 Q0;obtain⟨O1,O2,hov⟩:=aH HS.out.own;subst hov;have E:=Lh (E0.out Q0.out);have FIN:=Lh (HR.out ⟨nm,e,(.slice O1 F'.length O2),F'⟩ 0 (wr.setRow (w.heap.size+1) #[.string nm,.int .i64 e,(.slice O1 F'.length O2)]) (by rw[E.out];unfold LyR.pl;dsimp only;rw[Q1.out]) (HS.out.done BX.out.br (.inl rfl)) (BX.out.gr.row2 (show w.heap.size<=w.heap.size+1 by omega) _));clear HR HS E0 E9
     go_wp2_with (first|(refine wpList_load_row rfl 24 _ rfl bo rfl 24 _ _ _ HO.out Tryz.underlying24 rfl (by kernel_rfl) ?_)|(refine wpList_store_row rfl 24 _ _ rfl (w.heap.size+1) #[.string nm,.int .i64 e,(.slice O1 F'.length O2)] rfl rfl 24 _ BX.out.br (by kernel_rfl) rfl (by simp[Value.oneCell']) ?_))
     refine bodyPost_ret (v:=.tuple #[.agg #[.string nm,.int .i64 e,(.slice O1 F'.length O2)],.int .i64 0]) ?_ rfl FIN.out;exact aQ rfl _ _ (w.heap.size+1) _ _ _ _ rfl (setRow_heap _ _ _ _ _ _ BX.out.br) rfl rfl Tryz.underlying24 (by kernel_rfl)
end Go.Proofs.YtjalimkajcjapaaGreatDoor
