import Derived.Test.YtjalimkajcjapaaGreatDoorOvGr
import Derived.Test.YtjalimkajcjapaaGreatDoorTRRight
namespace Go.Proofs.YtjalimkajcjapaaGreatDoor
set_option maxRecDepth 100000
open Go.RowKit B
set_option maxHeartbeats 32000000 in
theorem rgrow_any (x:LyR)(e:Int)(S:Nat->Prop)(w:World)(hx:x.rd w S)(hok:x.ok)(hT:kD w)(he:I64 e)(hn:x.F.length<=300)(hl:∀ f∈x.F,(f.A.length<=400/\∀ r∈f.A,r.l.length<=400)/\f.B.length<=1000){R:Ending->World->Prop}
  (hR:∀ (y:LyR) (c:Int) w',(y.pl,c)=eG x.pl e->y.rd w' (fun _=>True)->aB w w'->R (.returned (.tuple #[.agg y.cells.toArray,.int .i64 c])) w'):
  Calls Tryz.prog 9 #[.agg x.cells.toArray,.int .i64 e] w R:=by
 have HR:=Lh hR;have HL:=Lh hl;have TR:=Lh fun W (hg:aB w W) (R:Ending->World->Prop) hR=>oH _ [x] (fun _=>True) _ (lW hx hg) (fun y hy=>List.mem_singleton.1 hy▸hok) (hT.gr (hg.al (.cells x.cells.toArray 24))) (fun y hy f hf=>by rw[List.mem_singleton.1 hy] at hf;have:=(hl f hf).2;omega) (R:=R) hR
 obtain⟨k0,hk0⟩:∃ k0,e/x.ext=k0:=⟨_,rfl⟩
 have NF:∀ h:bC ([x].map LyR.pl)=true,¬ bC [x.pl]=false:=fun h=>by rw[show bC [x.pl]=true from h];decide
 have E3:Hid (bC ([x].map LyR.pl)=false->eG x.pl e=(cM,3)):=fun h=>by unfold eG;rw[if_pos (show bC [x.pl]=false from h)]
 have E1:Hid (bC ([x].map LyR.pl)=true->(e<1∨65536<e)->eG x.pl e=(cM,1)):=fun h h2=>by unfold eG;rw[if_neg (NF h),if_pos h2]
 have E8:Hid (bC ([x].map LyR.pl)=true->¬ (e<1∨65536<e)->e%x.ext≠0->eG x.pl e=(cM,8)):=fun h h2 h3=>by unfold eG;rw[if_neg (NF h),if_neg h2,if_pos (show e%x.pl.2.1≠0 from h3)]
 have E9:Hid (bC ([x].map LyR.pl)=true->¬ (e<1∨65536<e)->¬ e%x.ext≠0->(∃ f∈x.F,prL f.f.ty ((f.A.map aI.l).map (fun l=>l.map (cG k0)))≠0)->eG x.pl e=(cM,8)):=fun h h2 h3 h4=>by
  unfold eG;rw[if_neg (NF h),if_neg h2,if_neg (show ¬ e%x.pl.2.1≠0 from h3),if_pos];obtain⟨f,hf,h5⟩:=h4;refine⟨f.pl,List.mem_map.2 ⟨f,hf,rfl⟩,?_⟩;rw[show e/x.pl.2.1=k0 from hk0];exact h5
 have E0:Hid (bC ([x].map LyR.pl)=true->¬ (e<1∨65536<e)->¬ e%x.ext≠0->(∀ f∈x.F,prL f.f.ty ((f.A.map aI.l).map (fun l=>l.map (cG k0)))=0)->eG x.pl e=((x.nm,e,(x.F.map FtR.pl).map (mU k0)),0)):=fun h h2 h3 h4=>by
  unfold eG;rw[if_neg (NF h),if_neg h2,if_neg (show ¬ e%x.pl.2.1≠0 from h3),show e/x.pl.2.1=k0 from hk0,if_neg]
  ·rfl
  ·rintro⟨f,hf,h5⟩
   obtain⟨g,hg,rfl⟩:=List.mem_map.1 (show f∈x.F.map FtR.pl from hf);exact h5 (h4 g hg)
 have RT:=Lh (lA (x:=x));have QB:Hid (1<=e->e<=65536->1<=x.ext->0<=k0/\k0<=65536/\0<=e%x.ext/\e%x.ext<=65536):=fun h1 h2 h3=>hk0▸quo_bd h1 h2 h3
 have HK:=Lh hk0;obtain⟨hx1,hx2⟩:=hx;have RFE:Hid (∀ f∈x.F,f.rd w (·<w.heap.size)):=fun f hf=>((hx2 f hf).lt2).into fun _ h=>h.2
 clear hR hok hT hl hx2 NF hk0;generalize bC ([x].map LyR.pl)=rt at*;obtain⟨nm,xe,fv,F⟩:=x;dsimp only at*;have hx1:=hx1.lt (by decide);obtain⟨_,X,cx,rfl,x1,x2,x3,x4⟩:=hx1;unfold maxLen at x2;unfold I64 at he;unfold LyR.cells at*;dsimp only at*
 obtain⟨wa,hwa⟩:∃ wa,wa=(w.alloc (.cells #[.string nm,.int .i64 xe,.slice X F.length cx] 24)).alloc (.cells #[.string ⟨#[]⟩,.int .i64 0,.slice none 0 0] 24):=⟨_,rfl⟩
 have BX:Hid (LY w #[.string nm,.int .i64 xe,.slice X F.length cx] #[.string ⟨#[]⟩,.int .i64 0,.slice none 0 0] wa):=by rw[hwa];exact LY.laid _ _ _
 go_enter Tryz.func9,Tryz.ntmps9
 go_upto_region 1 with fail
 rw[<-hwa];clear hwa;go_wp2_with (refine wpList_load_row rfl 24 _ rfl w.heap.size rfl 24 _ _ _ BX.out.bx Tryz.underlying24 rfl (by kernel_rfl) ?_)
 go_at_call 18;refine TR.out wa BX.out.gr _ ?_;intro c w1 hc hg1;have BX:=Lh (BX.out.tr (((aB.refl wa).al _).tr hg1));clear hg1 TR
 cases c with
 |false=>
  have HB:Hid (rt=false):=by cases rt with|false=>rfl|true=>exact absurd (hc.2 rfl) (by decide)
  clear hc;go_wp2_with (refine wpList_store_row rfl 24 _ _ rfl (w.heap.size+1) #[.string ⟨#[]⟩,.int .i64 0,.slice none 0 0] rfl rfl 24 _ BX.out.br (by kernel_rfl) rfl (by simp[Value.oneCell']) ?_)
  refine bodyPost_ret (v:=.tuple #[.agg #[.string ⟨#[]⟩,.int .i64 0,.slice none 0 0],.int .i64 3]) ?_ rfl (HR.out ⟨⟨#[]⟩,0,.slice none 0 0,[]⟩ 3 _ (by rw[E3.out HB.out];rfl) (dJ _) (BX.out.gr.row2 (show w.heap.size<=w.heap.size+1 by omega) _));exact aQ rfl _ _ (w.heap.size+1) _ _ _ _ rfl (setRow_heap _ _ _ _ _ _ BX.out.br) rfl rfl Tryz.underlying24 (by kernel_rfl)
 |true=>
  have HB:=Lh (hc.1 rfl);clear hc E3
  by_cases hlo:e<1
  ·have WHY:=Lh (E1.out HB.out (.inl hlo))
   go_wp2_with (refine wpList_store_row rfl 24 _ _ rfl (w.heap.size+1) #[.string ⟨#[]⟩,.int .i64 0,.slice none 0 0] rfl rfl 24 _ BX.out.br (by kernel_rfl) rfl (by simp[Value.oneCell']) ?_)
   refine bodyPost_ret (v:=.tuple #[.agg #[.string ⟨#[]⟩,.int .i64 0,.slice none 0 0],.int .i64 1]) ?_ rfl (HR.out ⟨⟨#[]⟩,0,.slice none 0 0,[]⟩ 1 _ (by rw[WHY.out];rfl) (dJ _) (BX.out.gr.row2 (show w.heap.size<=w.heap.size+1 by omega) _));exact aQ rfl _ _ (w.heap.size+1) _ _ _ _ rfl (setRow_heap _ _ _ _ _ _ BX.out.br) rfl rfl Tryz.underlying24 (by kernel_rfl)
  by_cases hhi:65536<e
  ·have WHY:=Lh (E1.out HB.out (.inr hhi))
   go_wp2_with (refine wpList_store_row rfl 24 _ _ rfl (w.heap.size+1) #[.string ⟨#[]⟩,.int .i64 0,.slice none 0 0] rfl rfl 24 _ BX.out.br (by kernel_rfl) rfl (by simp[Value.oneCell']) ?_)
   refine bodyPost_ret (v:=.tuple #[.agg #[.string ⟨#[]⟩,.int .i64 0,.slice none 0 0],.int .i64 1]) ?_ rfl (HR.out ⟨⟨#[]⟩,0,.slice none 0 0,[]⟩ 1 _ (by rw[WHY.out];rfl) (dJ _) (BX.out.gr.row2 (show w.heap.size<=w.heap.size+1 by omega) _));exact aQ rfl _ _ (w.heap.size+1) _ _ _ _ rfl (setRow_heap _ _ _ _ _ _ BX.out.br) rfl rfl Tryz.underlying24 (by kernel_rfl)
  have EB:Hid (¬ (e<1∨65536<e)):=by show ¬ _;omega
  obtain⟨⟨xl,xh⟩,prs⟩:=RT.out HB.out;have PRS:=Lh prs;obtain⟨ql,qh,ml,mh⟩:=QB.out (by omega) (by omega) xl
  try dsimp only at xl xh
  clear E1 RT QB prs;have y1:=cell_of_row _ w.heap.size 1 _ _ (0,0) BX.out.bx
  by_cases hm:e%xe=0
  case neg=>
   have WHY:=Lh (E8.out HB.out EB.out hm);have t1:(e%xe != 0)=true:=by rw[bne_iff_ne];exact hm
   go_upto_region 6 with fail
   clear y1 HK;go_wp2_with (refine wpList_store_row rfl 24 _ _ rfl (w.heap.size+1) #[.string ⟨#[]⟩,.int .i64 0,.slice none 0 0] rfl rfl 24 _ BX.out.br (by kernel_rfl) rfl (by simp[Value.oneCell']) ?_)
   refine bodyPost_ret (v:=.tuple #[.agg #[.string ⟨#[]⟩,.int .i64 0,.slice none 0 0],.int .i64 8]) ?_ rfl (HR.out ⟨⟨#[]⟩,0,.slice none 0 0,[]⟩ 8 _ (by rw[WHY.out];rfl) (dJ _) (BX.out.gr.row2 (show w.heap.size<=w.heap.size+1 by omega) _));exact aQ rfl _ _ (w.heap.size+1) _ _ _ _ rfl (setRow_heap _ _ _ _ _ _ BX.out.br) rfl rfl Tryz.underlying24 (by kernel_rfl)
  case pos=>
   have E9:=Lh (E9.out HB.out EB.out (by rw[hm];simp));have E0:=Lh (E0.out HB.out EB.out (by rw[hm];simp));have t1:(e%xe != 0)=false:=by rw[hm];rfl
   have KB:Hid (0<=k0/\k0<=65536):=⟨ql,qh⟩
   clear E8 HB EB;have y0:=cell_of_row _ w.heap.size 0 _ _ (0,0) BX.out.bx;go_upto_region 8 with fail
   clear t1 hm
   try rw[HK.out]
   clear HK;go_upto_region 9 with fail
   have LBO:Hid (w.heap.size+1<w1.heap.size):=lt_of_block BX.out.br;have GL:Hid (aB w1 (w1.alloc (.cells #[.string nm,.int .i64 e,.slice none 0 0] 24))):=(aB.refl _).al _;have BO:Hid ((w1.alloc (.cells #[.string nm,.int .i64 e,.slice none 0 0] 24)).heap[w1.heap.size]? =some (.cells #[.string nm,.int .i64 e,.slice none 0 0] 24 (0,0))):=heap_alloc_new _ _;have BX:=Lh (BX.out.tr GL.out);clear GL y0 y1;generalize w1.alloc (.cells #[.string nm,.int .i64 e,.slice none 0 0] 24)=w3 at*;generalize w1.heap.size=bo at*
   have y2:=cell_of_row _ w.heap.size 2 _ _ (0,0) BX.out.bx;go_wp2_with fail
   clear y2
   go_loopw [8] (fun i wr=>∃ k:Nat,k<=F.length/\i=.int .i64 k/\Hid (∃ ov F',F'.map FtR.pl=((F.take k).map FtR.pl).map (mU k0)/\F'.length=k/\(∀ f∈F.take k,prL f.f.ty ((f.A.map aI.l).map (fun l=>l.map (cG k0)))=0)/\wr.heap[bo]? =some (.cells #[.string nm,.int .i64 e,ov] 24 (0,0))/\OS w.heap.size (fun b=>b=w.heap.size+1∨b=bo) ov F' wr)/\Hid (LY w #[.string nm,.int .i64 xe,.slice X F.length cx] #[.string ⟨#[]⟩,.int .i64 0,.slice none 0 0] wr)) (fun i _=>F.length-(intOf i).toNat)
   case atStart=>exact⟨0,Nat.zero_le _,rfl,⟨_,[],rfl,rfl,by simp,BO.out,OS.nil⟩,BX.out⟩
   case round=>
    clear BO BX;obtain⟨k,hk,rfl,hP,hB⟩:=hrel;have BX:=Lh hB.out;obtain⟨ov,F',q1,q2,q0,q3,q4⟩:=hP.out;clear hP hB;have HO:=Lh q3;have HS:=Lh q4;have Q1:=Lh q1;have Q0:=Lh q0;have Q2:=Lh q2;clear q0 q1 q2 q3 q4;have y2:=cell_of_row _ w.heap.size 2 _ _ (0,0) BX.out.bx
    by_cases hlt:k<F.length
    ·obtain⟨b1,o1,rfl,hb1,hc1⟩:=x4 (by omega)
     have e1:=aL FtR.cells_len BX.out.gr hb1 hc1 hlt;have RJ:=Lh (RFE.out F[k] (List.getElem_mem hlt));have LJ:=HL.out F[k] (List.getElem_mem hlt);have PJ:=Lh (PRS.out F[k] (List.getElem_mem hlt));have E9K:Hid (prL F[k].f.ty ((F[k].A.map aI.l).map (fun l=>l.map (cG k0)))≠0->eG (LyR.pl ⟨nm,xe,.slice (some ⟨b1,o1,none⟩) F.length cx,F⟩) e=(cM,8)):=fun h=>E9.out ⟨F[k],List.getElem_mem hlt,h⟩
     have QK:Hid (prL F[k].f.ty ((F[k].A.map aI.l).map (fun l=>l.map (cG k0)))=0->∀ f∈F.take (k+1),prL f.f.ty ((f.A.map aI.l).map (fun l=>l.map (cG k0)))=0):=fun h f hf=>by
      rw[List.take_succ_eq_append_getElem hlt] at hf;rcases List.mem_append.1 hf with hf|hf
      ·exact Q0.out f hf
      ·rw[List.mem_singleton.1 hf];exact h
     have TJ:Hid (((F.take (k+1)).map FtR.pl).map (mU k0)=((F.take k).map FtR.pl).map (mU k0)++[mU k0 F[k].pl]):=by
      show _=_;rw[List.take_succ_eq_append_getElem hlt,List.map_append,List.map_append];rfl
     clear hc1 Q0;generalize F[k]=f at*;obtain⟨p1,p2,p3,p4,hp,ha⟩:=RJ.out.fm2;obtain⟨⟨h,id,ty,pv,av⟩,A,B⟩:=f;dsimp only at hp ha LJ PJ E9K QK;subst hp ha;have AIN:=Lh (fW PJ.out).2.2;obtain⟨⟨la1,la2⟩,lb⟩:=LJ;have LA2:=Lh la2;have u0:=e1 0 _ rfl;have u1:=e1 1 _ rfl;have u2:=e1 2 _ rfl;have u3:=e1 3 _ rfl;have u4:=e1 4 _ rfl;simp only[Nat.add_zero] at u0;clear e1 la2 PJ;go_upto_region 13 with fail
     have GR:Hid (aB wr (wr.alloc (.cells #[.bool h,.int .u64 id,.int .i64 ty,.slice p1 A.length p2,.slice p3 B.length p4] 44))):=(aB.refl _).al _;have BF:Hid ((wr.alloc (.cells #[.bool h,.int .u64 id,.int .i64 ty,.slice p1 A.length p2,.slice p3 B.length p4] 44)).heap[wr.heap.size]? =some (.cells #[.bool h,.int .u64 id,.int .i64 ty,.slice p1 A.length p2,.slice p3 B.length p4] 44 (0,0))):=heap_alloc_new _ _;clear u0 u1 u2 u3 u4;generalize wr.alloc (.cells #[.bool h,.int .u64 id,.int .i64 ty,.slice p1 A.length p2,.slice p3 B.length p4] 44)=wb at*
     obtain⟨gb,hgb⟩:∃ gb,wr.heap.size=gb:=⟨_,rfl⟩
     rw[hgb] at BF;rw[hgb];have EG:=Lh hgb
     have NB:Hid (∀ b,(b=w.heap.size+1∨b=bo)->w.heap.size<=b/\b<wr.heap.size):=fun b hb=>by
      have:=lt_of_block HO.out;have:=lt_of_block BX.out.br;have:=LBO.out;rcases hb with rfl|rfl<;>omega
     have SG:Hid (w.heap.size<=gb):=by have:=BX.out.gr.size;have:=EG.out;show _<=_;omega
     have LG:Hid (gb<wb.heap.size):=lt_of_block BF.out;have LB0:Hid (gb<wb.heap.size):=LG.out;have BXr:=Lh BX.out;clear hgb BX;have BF6:=Lh BF.out;have AV:Hid (Rd wb (fun b=>b<w.heap.size) 4 (.slice p3 B.length p4) B.length (rQ B)):=RJ.out.2.2.gr2 (by decide) (BXr.out.gr.tr GR.out);clear BF
     obtain⟨w6,hw6⟩:∃ w6,wb=w6:=⟨_,rfl⟩
     subst hw6;have c3:=cell_of_row _ gb 3 _ _ _ BF6.out;go_wp2_with fail
     clear c3
     go_loopw [11,10] (fun i v wr=>∃ m:Nat,m<=A.length/\i=.int .i64 m/\Hid (∃ rows:List aI,rows.map aI.l=((A.take m).map aI.l).map (fun l=>l.map (cG k0))/\rows.length=m/\PTs wb.heap.size v rows wr)/\Hid (aB wb wr)) (fun i _ _=>A.length-(intOf i).toNat)
     case atStart=>exact⟨0,Nat.zero_le _,rfl,⟨[],rfl,rfl,PTs.nil⟩,aB.refl _⟩
     case round=>
      obtain⟨m,hm,rfl,hq,hg⟩:=hrel;obtain⟨rows,r1,r2,r3⟩:=hq.out;have PS:=Lh r3;have R1:=Lh r1;have R2:=Lh r2;have G6:=Lh hg.out;have GI:=Lh ((BXr.out.gr.tr GR.out).tr G6.out);clear hq hg r1 r2 r3
      rename World=>w7
      have c3:=cell_of_row _ gb 3 _ _ _ (aC G6.out BF6.out)
      by_cases hml:m<A.length
      ·obtain⟨b2,o2,hp1,c0⟩:=vX RJ.out.1 GI.out (i:=m) (by simpa using hml)
       subst hp1;rw[List.getElem_map] at c0;have RR:=RJ.out.2.1 A[m] (List.getElem_mem hml);have LR:=LA2.out A[m] (List.getElem_mem hml);have AB:=Lh (AIN.out A[m] (List.getElem_mem hml))
       have TM:Hid (((A.take (m+1)).map aI.l).map (fun l=>l.map (cG k0))=((A.take m).map aI.l).map (fun l=>l.map (cG k0))++[A[m].l.map (cG k0)]):=by
        show _=_;rw[List.take_succ_eq_append_getElem hml,List.map_append,List.map_append];rfl
       generalize A[m]=r at*;obtain⟨rv,rl⟩:=r;unfold aI.rd at RR;dsimp only at RR LR AB TM c0;obtain⟨_,Y,cy,rfl,y1,y2,y3,y4⟩:=RR;unfold maxLen at y2;go_wp2_with fail
       go_loopw [13,12] (fun i v wr=>∃ j:Nat,j<=rl.length/\i=.int .i64 j/\Hid (wr.ownsRow w7.heap.size 51 2 v j (Pts ((rl.take j).map (cG k0))))/\Hid (aB w7 wr)) (fun i _ _=>rl.length-(intOf i).toNat)
       case atStart=>exact⟨0,Nat.zero_le _,rfl,World.ownsRow_nil _ _ _ _,aB.refl _⟩
       case round=>
        obtain⟨j,hj,rfl,ho,hg⟩:=hrel;have OW:=Lh ho.out;have G7:=Lh hg.out;obtain⟨T1,T2,hT⟩:=aH OW.out;subst hT;clear ho hg;have d3:=cell_of_row _ gb 3 _ _ _ (aC (G6.out.tr G7.out) BF6.out);have d0:=G7.out.cell (World.block_lt_of_cell? _ _ c0) |>.trans c0
        by_cases hjl:j<rl.length
        ·obtain⟨b3,o3,rfl,hS3,hc3⟩:=y4 (by omega)
         have e3:=fun W (h:aB w W)=>aL Pt.cells_len h hS3 hc3 hjl
         have AP:=AB.out rl[j] (List.getElem_mem hjl);have PM:Hid (Pts ((rl.take (j+1)).map (cG k0))=Pts ((rl.take j).map (cG k0))++[.int .i64 (k0*rl[j].x),.int .i64 (k0*rl[j].y)]):=wC hjl;generalize rl[j]=p at*;obtain⟨px,py⟩:=p;dsimp only at AP PM;have kb:=KB.out;have m0:=oZ kb.1 kb.2 AP.1.1 AP.1.2;have m1:=oZ kb.1 kb.2 AP.2.1 AP.2.2;have q0:IntKind.i64.wrap (k0*px)=k0*px:=IntWalk.i64_in _ (by omega);have q1:IntKind.i64.wrap (k0*py)=k0*py:=IntWalk.i64_in _ (by omega)
         have C3:Hid (∀ W,aB wr W->W.cell? ⟨gb,3,none⟩=some (.slice (some ⟨b2,o2,none⟩) A.length p2)/\W.cell? ⟨b2,o2+m,none⟩=some (.slice (some ⟨b3,o3,none⟩) rl.length cy)/\W.cell? ⟨b3,o3+j*2,none⟩=some (.int .i64 px)/\W.cell? ⟨b3,o3+j*2+1,none⟩=some (.int .i64 py)):=fun W hW=>
          ⟨cell_of_row _ _ _ _ _ _ (aC ((G6.out.tr G7.out).tr hW) BF6.out),(G7.out.tr hW).cell (World.block_lt_of_cell? _ _ c0) |>.trans c0,e3 W ((GI.out.tr G7.out).tr hW) 0 _ rfl,e3 W ((GI.out.tr G7.out).tr hW) 1 _ rfl⟩
         clear e3 hc3 AP m0 m1 kb;go_upto_region 21 with fail
         clear d3 d0;refine aE (fun W=>aB wr W) ((aB.refl _).dr) 25 [0,1,2,3,4,5,6,7,8,9,10,11,12,13,14,15,16,17,18,19,20,21,22,23,24] (by kernel_rfl) (by kernel_rfl) (by intro c a d v w h;cases d<;>exact h) ?_;have GD8:Hid (aB wr wr.drew):=(aB.refl _).dr;have G8:=Lh (G7.out.tr GD8.out);have OW8:=Lh (aJ OW.out GD8.out);generalize wr.drew=w8 at*
         iterate 24 (apply aD;exact rfl;exact rfl;(intro W hW;obtain⟨z0,z1,z2,z3⟩:=C3.out W hW;(try clear hW);go_simp;with_reducible rfl);try simp only[Act.put,sA,sZ,sS])
         apply aG;exact rfl;exact rfl;exact rfl;intro K hK;go_simp;refine hK.out _ _ (GD8.out.al _) ?_;clear hK;try simp only[Act.put,sA,sZ,sS]
         refine aK ?_;simp only[List.drop_succ_cons,List.drop_zero];clear OW G7 C3 GD8;go_wp2_with (at_builtin;refine dU rfl _ _ rfl gM OW8.out rfl 1 _ rfl _ rfl (by decide) rfl (by simp[Value.oneCell']) (by omega) G8.out.size ?_;intro v9 w9 hown9 hgr9 hb9;have OW9:Hid (w9.ownsRow w7.heap.size 51 2 v9 (j+1) (Pts ((rl.take (j+1)).map (cG k0)))):=aO hown9 rfl PM.out.symm;have G9:=Lh (bK G8.out hgr9 (cA OW8.out));clear hown9 hgr9 hb9 OW8 G8)
         go_roundw
         case rel=>exact⟨j+1,by omega,by go_num,OW9.out,G9.out⟩
         case measure=>simp[intOf];omega
        ·obtain rfl:j=rl.length:=by omega
         rw[List.take_length] at OW;have SZ6:Hid (wb.heap.size<=w7.heap.size):=G6.out.size;have RN:=Lh (PS.out.fresh SZ6.out (l:=rl.map (cG k0)) (aO OW.out (List.length_map _).symm rfl));have PSn:=Lh (PS.out.gr G7.out);have G8:=Lh (G6.out.tr G7.out);obtain⟨V1,V2,hV⟩:=aH PSn.out.own;subst hV;clear OW PS
         go_wp2_with (at_builtin;refine dU rfl _ _ rfl fY PSn.out.own rfl 1 _ rfl _ rfl (by decide) rfl (by simp[Value.oneCell']) (by have:=R2.out;omega) G8.out.size ?_;intro v9 w9 hown9 hgr9 hb9;have PS9:=Lh (PSn.out.app hgr9 (aO hown9 (by simp) (by simp)) hb9 RN.out);have G9:=Lh (bK G8.out hgr9 (cA PSn.out.own));clear hown9 hgr9 hb9 PSn G8 RN)
         go_roundw
         case rel=>exact⟨m+1,by omega,by go_num,⟨_,by rw[List.map_append,R1.out,TM.out];rfl,by rw[List.length_append,R2.out];rfl,PS9.out⟩,G9.out⟩
         case measure=>simp[intOf];omega
      ·obtain rfl:m=A.length:=by omega
       rw[List.take_length] at R1;have PRE:Hid (aT ty rows=prL ty ((A.map aI.l).map (fun l=>l.map (cG k0)))):=by show _=_;rw[yL,R1.out]
       have c2:=cell_of_row _ gb 2 _ _ _ (aC G6.out BF6.out);obtain⟨T1,T2,hT⟩:=aH PS.out.own;subst hT;have PR:=Lh fun (R:Ending->World->Prop) hR=>kL ty (.slice T1 rows.length T2) rows _ _ w7 (Rd.own PS.out.own) (fun r hr=>PS.out.each r hr) (R:=R) hR
       go_wp2_with fail
       go_at_call 23;refine PR.out _ ?_;intro w9 hg9;have PS9:=Lh (PS.out.gr hg9);have G9:=Lh (G6.out.tr hg9);have GR9:=Lh (GR.out.tr G9.out);have BF9:=Lh (aC G9.out BF6.out);clear hg9 PR PS G6 c2 GI
       by_cases hpr:aT ty rows=0
       ·have FQ:=Lh (QK.out (PRE.out▸hpr))
        rw[hpr];clear E9K QK PRE hpr;have c3:=cell_of_row _ gb 3 _ _ _ BF9.out;have g3:=frozen_of_row _ gb 3 _ _ BF9.out;have BF10:=Lh (aF BF9.out 3 (.slice T1 rows.length T2));simp only[sA,sZ,sS] at BF10;have GR10:=Lh (GR9.out.set (p:=⟨gb,3,none⟩) (by have:=EG.out;show _<=gb;omega) (.slice T1 rows.length T2));have TS:=Lh (kU w9 gb 3 (.slice T1 rows.length T2));go_upto_region 26 with fail
        clear c3 g3
        have XR:Hid ((⟨⟨h,id,ty,.slice T1 rows.length T2,.slice p3 B.length p4⟩,rows,B⟩:FtR).rd w9 (fun b=>(gb<b∨b<w.heap.size)/\b≠gb)):=by
         have lg:=LG.out;have lb0:=LB0.out;have sg:=SG.out;exact⟨(Rd.own_from PS9.out.own).into fun b (hb:wb.heap.size<=b)=>⟨.inl (by omega),by omega⟩,fun r hr=>Rd.into (PS9.out.each r hr) fun b hb=>(by obtain⟨hb,-,-⟩:=hb;exact⟨.inl (by omega),by omega⟩),(AV.out.gr2 (by decide) G9.out).into fun b (hb:b<w.heap.size)=>⟨.inr hb,by omega⟩⟩
        have XR:=Lh ((XR.out.tn TS.out fun b hb e=>hb.2 e).into fun b hb=>(hb.1.imp Nat.le_of_lt (fun h=>h):gb<=b∨b<w.heap.size));have XN:=Lh (HS.out.fresh NB.out (by rw[EG.out];exact XR.out));generalize w9.setCell ⟨gb,3,none⟩ (.slice T1 rows.length T2)=w10 at*;have BX:=Lh (BXr.out.tr GR10.out);have HO:=Lh (aC GR10.out HO.out);have HS:=Lh (HS.out.gr GR10.out);clear BF9 GR9 G9 PS9 AV TS XR GR10 GR BXr;obtain⟨O1,O2,hov⟩:=aH HS.out.own;subst hov;have o2':=cell_of_row _ bo 2 _ _ _ HO.out
        have SZ:w.heap.size<=w10.heap.size:=BX.out.gr.size
        go_wp2_with (first|(refine wpList_load_row rfl 44 _ rfl gb rfl 44 _ _ _ BF10.out Tryz.underlying44 rfl (by kernel_rfl) ?_)|(at_builtin;refine dU rfl _ _ rfl xH HS.out.own rfl 1 _ rfl _ rfl (by decide) rfl (by simp[Value.oneCell']) (by have:=Q2.out;omega) SZ ?_;intro v7 w7' hown7 hgr7 hb7;obtain⟨A7,k7,hv7⟩:=aH hown7;subst hv7;have S7:=Lh (HS.out.app (g:=⟨⟨h,id,ty,.slice T1 rows.length T2,.slice p3 B.length p4⟩,rows,B⟩) hgr7 (aO hown7 (by simp) (by simp[Fts,FtR.cells,Ft.cells])) hb7 XN.out);have BX7:=Lh (BX.out.tn HS.out.own LBO.out (Nat.le_refl _) (Tn.by_ (D:=fun b=>b=bo∨(Value.slice O1 F'.length O2).ownBlock=some b) hgr7 fun k hk=>.inr hk));have HO7:=Lh ((hgr7.block bo (lt_of_block HO.out) (fun e=>bR HS.out.own HO.out (by decide) e.symm)).trans HO.out);have g7:=frozen_of_row _ bo 2 _ _ HO7.out;have c7:=cell_of_row _ bo 2 _ _ _ HO7.out;have NE7:=Lh (qM (bR HS.out.own HO.out (by decide)) (lt_of_block HO.out) hb7);clear hown7 hgr7 hb7 o2'))
        have BX8:=Lh (BX7.out.tn S7.out.own LBO.out (Nat.le_refl _) ((kU w7' bo 2 (.slice A7 (F'.length+1) k7)).into fun j hj=>.inl hj));go_roundw
        case rel=>exact⟨k+1,by omega,by go_num,⟨(.slice A7 (F'.length+1) k7),F'++[⟨⟨h,id,ty,.slice T1 rows.length T2,.slice p3 B.length p4⟩,rows,B⟩],by rw[List.map_append,Q1.out,TJ.out];unfold mU FtR.pl;dsimp only;rw[<-R1.out];rfl,by rw[List.length_append,Q2.out];rfl,FQ.out,aF HO7.out 2 (.slice A7 (F'.length+1) k7),S7.out.set NE7.out (.inr rfl)⟩,BX8.out⟩
        case measure=>simp[intOf];omega
       ·have WHY:=Lh (E9K.out (PRE.out▸hpr))
        have BX:=Lh (BXr.out.tr GR9.out);clear E9K QK PRE;generalize aT ty rows=pr at*;go_wp2_with (refine wpList_store_row rfl 24 _ _ rfl (w.heap.size+1) #[.string ⟨#[]⟩,.int .i64 0,.slice none 0 0] rfl rfl 24 _ BX.out.br (by kernel_rfl) rfl (by simp[Value.oneCell']) ?_)
        refine bodyPost_ret (v:=.tuple #[.agg #[.string ⟨#[]⟩,.int .i64 0,.slice none 0 0],.int .i64 8]) ?_ rfl (HR.out ⟨⟨#[]⟩,0,.slice none 0 0,[]⟩ 8 _ (by rw[WHY.out];rfl) (dJ _) (BX.out.gr.row2 (show w.heap.size<=w.heap.size+1 by omega) _));exact aQ rfl _ _ (w.heap.size+1) _ _ _ _ rfl (setRow_heap _ _ _ _ _ _ BX.out.br) rfl rfl Tryz.underlying24 (by kernel_rfl)
    ·obtain rfl:k=F.length:=by omega
     rw[List.take_length] at Q1 Q0;obtain⟨O1,O2,hov⟩:=aH HS.out.own;subst hov;have E:=Lh (E0.out Q0.out);have FIN:=Lh (HR.out ⟨nm,e,(.slice O1 F'.length O2),F'⟩ 0 (wr.setRow (w.heap.size+1) #[.string nm,.int .i64 e,(.slice O1 F'.length O2)]) (by rw[E.out];unfold LyR.pl;dsimp only;rw[Q1.out]) (HS.out.done BX.out.br (.inl rfl)) (BX.out.gr.row2 (show w.heap.size<=w.heap.size+1 by omega) _));clear HR HS E0 E9
     go_wp2_with (first|(refine wpList_load_row rfl 24 _ rfl bo rfl 24 _ _ _ HO.out Tryz.underlying24 rfl (by kernel_rfl) ?_)|(refine wpList_store_row rfl 24 _ _ rfl (w.heap.size+1) #[.string nm,.int .i64 e,(.slice O1 F'.length O2)] rfl rfl 24 _ BX.out.br (by kernel_rfl) rfl (by simp[Value.oneCell']) ?_))
     refine bodyPost_ret (v:=.tuple #[.agg #[.string nm,.int .i64 e,(.slice O1 F'.length O2)],.int .i64 0]) ?_ rfl FIN.out;exact aQ rfl _ _ (w.heap.size+1) _ _ _ _ rfl (setRow_heap _ _ _ _ _ _ BX.out.br) rfl rfl Tryz.underlying24 (by kernel_rfl)
end Go.Proofs.YtjalimkajcjapaaGreatDoor
