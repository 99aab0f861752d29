import Derived.Test.YtjalimkajcjapaaGreatDoorOvLA
import Derived.Test.YtjalimkajcjapaaGreatDoorTRRight
import Derived.Test.YtjalimkajcjapaaGreatDoorRfD
namespace Go.Proofs.YtjalimkajcjapaaGreatDoor
set_option maxRecDepth 100000
open Go.RowKit B
set_option maxHeartbeats 16000000 in
theorem yJ (x:LyR)(z:Zm)(S:Nat->Prop)(w:World)(hx:x.rd w S)(hok:x.ok)(hT:kD w)(hn:x.F.length<=300)(hl:∀ f∈x.F,(f.A.length<=400/\∀ r∈f.A,r.l.length<=400)/\f.B.length<=1000){R:Ending->World->Prop}
  (hR:∀ (y:LyR) (c:Int) w',(y.pl,c)=fQ z x.pl->y.rd w' (fun _=>True)->aB w w'->R (.returned (.tuple #[.agg y.cells.toArray,.int .i64 c])) w'):
  Calls Tryz.prog 7 #[.agg x.cells.toArray,.agg z.cells.toArray] w R:=by
 have HR:=Lh hR;have HL:=Lh hl;have TR:=Lh fun W (hg:aB w W) (R:Ending->World->Prop) hR=>oH _ [x] (fun _=>True) _ (lW hx hg) (fun y hy=>List.mem_singleton.1 hy▸hok) (hT.gr (hg.al (.cells x.cells.toArray 24))) (fun y hy f hf=>by rw[List.mem_singleton.1 hy] at hf;have:=(hl f hf).2;omega) (R:=R) hR
 have OR:=Lh fun W (R:Ending->World->Prop) hR=>mN z x.ext W (R:=R) hR
 have E3:Hid (bC ([x].map LyR.pl)=false->fQ z x.pl=(cM,3)):=fun h=>by unfold fQ;rw[if_pos (show bC [x.pl]=false from h)]
 have E1:Hid (bC ([x].map LyR.pl)=true->aS z x.ext=false->fQ z x.pl=(cM,1)):=fun h h2=>by unfold fQ;rw[if_neg (show ¬ bC [x.pl]=false from by rw[show bC [x.pl]=true from h];decide),if_pos (show aS z x.pl.2.1=false from h2)]
 have E0:Hid (bC ([x].map LyR.pl)=true->aS z x.ext=true->fQ z x.pl=((x.nm,x.ext,(x.F.map FtR.pl).flatMap (ovF z x.ext)),0)):=fun h h2=>by unfold fQ;rw[if_neg (show ¬ bC [x.pl]=false from by rw[show bC [x.pl]=true from h];decide),if_neg (show ¬ aS z x.pl.2.1=false from by rw[show aS z x.pl.2.1=true from h2];decide)];rfl
 have RT:=Lh (lA (x:=x));obtain⟨hx1,hx2⟩:=hx;have RFE:Hid (∀ f∈x.F,f.rd w (·<w.heap.size)):=fun f hf=>((hx2 f hf).lt2).into fun _ h=>h.2
 clear hR hok hT hl hx2;generalize bC ([x].map LyR.pl)=rt at*;obtain⟨nm,e,fv,F⟩:=x;dsimp only at*;have hx1:=hx1.lt (by decide);obtain⟨_,X,cx,rfl,x1,x2,x3,x4⟩:=hx1;unfold maxLen at x2;unfold LyR.cells at*;dsimp only at*
 obtain⟨wa,hwa⟩:∃ wa,wa=((w.alloc (.cells #[.string nm,.int .i64 e,.slice X F.length cx] 24)).alloc (.cells z.cells.toArray 26)).alloc (.cells #[.string ⟨#[]⟩,.int .i64 0,.slice none 0 0] 24):=⟨_,rfl⟩
 have BX:Hid (LX w #[.string nm,.int .i64 e,.slice X F.length cx] z.cells.toArray #[.string ⟨#[]⟩,.int .i64 0,.slice none 0 0] wa):=by rw[hwa];exact LX.laid _ _ _ _
 go_enter Tryz.func7,Tryz.ntmps7
 go_upto_region 1 with fail
 rw[<-hwa];clear hwa;go_wp2_with (refine wpList_load_row rfl 24 _ rfl w.heap.size rfl 24 _ _ _ BX.out.bx Tryz.underlying24 rfl (by kernel_rfl) ?_)
 go_at_call 18;refine TR.out wa BX.out.gr _ ?_;intro c w1 hc hg1;have BX:=Lh (BX.out.tr (((aB.refl wa).al _).tr hg1));clear hg1 TR
 cases c with
 |false=>
  have HB:Hid (rt=false):=by cases rt with|false=>rfl|true=>exact absurd (hc.2 rfl) (by decide)
  clear hc;go_wp2_with (refine wpList_store_row rfl 24 _ _ rfl (w.heap.size+1+1) #[.string ⟨#[]⟩,.int .i64 0,.slice none 0 0] rfl rfl 24 _ BX.out.br (by kernel_rfl) rfl (by simp[Value.oneCell']) ?_)
  refine bodyPost_ret (v:=.tuple #[.agg #[.string ⟨#[]⟩,.int .i64 0,.slice none 0 0],.int .i64 3]) ?_ rfl (HR.out ⟨⟨#[]⟩,0,.slice none 0 0,[]⟩ 3 _ (by rw[E3.out HB.out];rfl) (dJ _) (BX.out.gr.row2 (show w.heap.size<=w.heap.size+1+1 by omega) _));exact aQ rfl _ _ (w.heap.size+1+1) _ _ _ _ rfl (setRow_heap _ _ _ _ _ _ BX.out.br) rfl rfl Tryz.underlying24 (by kernel_rfl)
 |true=>
  have HB:=Lh (hc.1 rfl);have x1':=cell_of_row _ w.heap.size 1 _ _ (0,0) BX.out.bx;clear hc E3;go_wp2_with (refine wpList_load_row rfl 26 _ rfl (w.heap.size+1) rfl 26 _ _ _ BX.out.bz Tryz.underlying26 rfl (by kernel_rfl) ?_)
  go_at_call 19;refine OR.out _ _ ?_;intro w2 hg2;have BX:=Lh (BX.out.tr hg2);clear hg2 OR x1'
  cases hz:aS z e with
  |false=>
   have HZ:=Lh hz;clear hz;go_wp2_with (refine wpList_store_row rfl 24 _ _ rfl (w.heap.size+1+1) #[.string ⟨#[]⟩,.int .i64 0,.slice none 0 0] rfl rfl 24 _ BX.out.br (by kernel_rfl) rfl (by simp[Value.oneCell']) ?_)
   refine bodyPost_ret (v:=.tuple #[.agg #[.string ⟨#[]⟩,.int .i64 0,.slice none 0 0],.int .i64 1]) ?_ rfl (HR.out ⟨⟨#[]⟩,0,.slice none 0 0,[]⟩ 1 _ (by rw[E1.out HB.out HZ.out];rfl) (dJ _) (BX.out.gr.row2 (show w.heap.size<=w.heap.size+1+1 by omega) _));exact aQ rfl _ _ (w.heap.size+1+1) _ _ _ _ rfl (setRow_heap _ _ _ _ _ _ BX.out.br) rfl rfl Tryz.underlying24 (by kernel_rfl)
  |true=>
   have HZ:=Lh hz;have E:=Lh (E0.out HB.out hz);have PRS:=Lh (RT.out HB.out).2;clear hz E1 E0 RT HB;have y0:=cell_of_row _ w.heap.size 0 _ _ (0,0) BX.out.bx;have y1:=cell_of_row _ w.heap.size 1 _ _ (0,0) BX.out.bx;go_upto_region 6 with fail
   have LBO:Hid (w.heap.size+1+1<w2.heap.size):=lt_of_block BX.out.br;have GL:Hid (aB w2 (w2.alloc (.cells #[.string nm,.int .i64 e,.slice none 0 0] 24))):=(aB.refl _).al _;have BO:Hid ((w2.alloc (.cells #[.string nm,.int .i64 e,.slice none 0 0] 24)).heap[w2.heap.size]? =some (.cells #[.string nm,.int .i64 e,.slice none 0 0] 24 (0,0))):=heap_alloc_new _ _;have BX:=Lh (BX.out.tr GL.out);clear GL y0 y1;generalize w2.alloc (.cells #[.string nm,.int .i64 e,.slice none 0 0] 24)=w3 at*;generalize w2.heap.size=bo at*;go_wp2_with fail
   go_loopw [7] (fun i wr=>∃ k:Nat,k<=F.length/\i=.int .i64 k/\Hid (∃ ov F',F'.map FtR.pl=((F.take k).map FtR.pl).flatMap (ovF z e)/\F'.length<=k/\wr.heap[bo]? =some (.cells #[.string nm,.int .i64 e,ov] 24 (0,0))/\OS w.heap.size (fun b=>b=w.heap.size+1+1∨b=bo) ov F' wr)/\Hid (LX w #[.string nm,.int .i64 e,.slice X F.length cx] z.cells.toArray #[.string ⟨#[]⟩,.int .i64 0,.slice none 0 0] wr)) (fun i _=>F.length-(intOf i).toNat)
   case atStart=>exact⟨0,Nat.zero_le _,rfl,⟨_,[],rfl,Nat.le_refl _,BO.out,OS.nil⟩,BX.out⟩
   case round=>
    clear BO BX;obtain⟨k,hk,rfl,hP,hB⟩:=hrel;have BX:=Lh hB.out;obtain⟨ov,F',q1,q2,q3,q4⟩:=hP.out;clear hP hB;have HO:=Lh q3;have HS:=Lh q4;have Q1:=Lh q1;clear q1 q3 q4;have y2:=cell_of_row _ w.heap.size 2 _ _ (0,0) BX.out.bx
    by_cases hlt:k<F.length
    ·obtain⟨b1,o1,rfl,hb1,hc1⟩:=x4 (by omega)
     have e1:=fun W (h:aB w W)=>aL FtR.cells_len h hb1 hc1 hlt
     have RJ:=Lh (RFE.out F[k] (List.getElem_mem hlt));have LJ:=HL.out F[k] (List.getElem_mem hlt);have PJ:=Lh (PRS.out F[k] (List.getElem_mem hlt))
     have TJ:Hid (((F.take (k+1)).map FtR.pl).flatMap (ovF z e)=((F.take k).map FtR.pl).flatMap (ovF z e)++ovF z e F[k].pl):=by
      show _=_;rw[List.take_succ_eq_append_getElem hlt,List.map_append,List.flatMap_append];simp
     clear hc1;generalize F[k]=f at*;obtain⟨p1,p2,p3,p4,hp,ha⟩:=RJ.out.fm2;obtain⟨⟨h,id,ty,pv,av⟩,A,B⟩:=f;dsimp only at hp ha LJ PJ;subst hp ha;have LA:=Lh LJ.1;have LB:=Lh LJ.2
     have U:Hid (∀ W,aB w W->W.cell? ⟨b1,o1+k*5,none⟩=some (.bool h)/\W.cell? ⟨b1,o1+k*5+1,none⟩=some (.int .u64 id)/\W.cell? ⟨b1,o1+k*5+2,none⟩=some (.int .i64 ty)/\W.cell? ⟨b1,o1+k*5+3,none⟩=some (.slice p1 A.length p2)/\W.cell? ⟨b1,o1+k*5+4,none⟩=some (.slice p3 B.length p4)):=fun W hW=>⟨e1 W hW 0 _ rfl,e1 W hW 1 _ rfl,e1 W hW 2 _ rfl,e1 W hW 3 _ rfl,e1 W hW 4 _ rfl⟩
     clear e1 LJ;have q1:=Lh RJ.out.1;have q2':=Lh RJ.out.2.1;have q3:=Lh RJ.out.2.2;have FE:=Lh fun W (hg:aB w W) (R:Ending->World->Prop) h1 h2=>tT (⟨h,id,ty,.slice p1 A.length p2,.slice p3 B.length p4⟩:Ft) z e A B.length (rQ B) (·<w.heap.size) (·<w.heap.size) (·<w.heap.size) W (q1.out.gr2 (by decide) hg) (fun r hr=>(q2'.out r hr).gr2 (by decide) hg) (q3.out.gr2 (by decide) hg) rI (by have:=LB.out;omega) LA.out (R:=R) h1 h2
     try unfold Ft.cells at FE
     try dsimp only at FE
     clear q1 q2' q3 LA LB;go_upto_region 9 with fail
     clear y2;refine jU (aB wr) (by kernel_rfl) 15 rfl ?_
     have FA:Hid (∀ W,aB wr W->W.cell? ⟨w.heap.size,2,none⟩=some (.slice (some ⟨b1,o1,none⟩) F.length cx)/\W.cell? ⟨w.heap.size,1,none⟩=some (.int .i64 e)/\W.cell? ⟨b1,o1+k*5,none⟩=some (.bool h)/\W.cell? ⟨b1,o1+k*5+1,none⟩=some (.int .u64 id)/\W.cell? ⟨b1,o1+k*5+2,none⟩=some (.int .i64 ty)/\W.cell? ⟨b1,o1+k*5+3,none⟩=some (.slice p1 A.length p2)/\W.cell? ⟨b1,o1+k*5+4,none⟩=some (.slice p3 B.length p4)):=fun W hW=>
      ⟨cell_of_row _ _ _ _ _ _ (aC hW BX.out.bx),cell_of_row _ _ _ _ _ _ (aC hW BX.out.bx),U.out W (BX.out.gr.tr hW)⟩
     clear U;apply aY (i:=0);exact rfl;exact rfl;kernel_rfl;(intro W hW;obtain⟨z0,z1,z2,z3,z4,z5,z6⟩:=FA.out W hW;(try clear hW);go_simp;with_reducible rfl);try simp only[Act.put,sA,sZ,sS]
     apply aY (i:=1);exact rfl;exact rfl;kernel_rfl;(intro W hW;obtain⟨z0,z1,z2,z3,z4,z5,z6⟩:=FA.out W hW;(try clear hW);go_simp;with_reducible rfl);try simp only[Act.put,sA,sZ,sS]
     apply aY (i:=2);exact rfl;exact rfl;kernel_rfl;(intro W hW;obtain⟨z0,z1,z2,z3,z4,z5,z6⟩:=FA.out W hW;(try clear hW);go_simp;with_reducible rfl);try simp only[Act.put,sA,sZ,sS]
     apply aY (i:=3);exact rfl;exact rfl;kernel_rfl;(intro W hW;obtain⟨z0,z1,z2,z3,z4,z5,z6⟩:=FA.out W hW;(try clear hW);go_simp;with_reducible rfl);try simp only[Act.put,sA,sZ,sS]
     apply aY (i:=4);exact rfl;exact rfl;kernel_rfl;(intro W hW;obtain⟨z0,z1,z2,z3,z4,z5,z6⟩:=FA.out W hW;(try clear hW);go_simp;with_reducible rfl);try simp only[Act.put,sA,sZ,sS]
     apply aY (i:=5);exact rfl;exact rfl;kernel_rfl;(intro W hW;exact aP 26 _ rfl (w.heap.size+1) rfl 26 _ _ _ (aC hW BX.out.bz) rfl Tryz.underlying26 (by kernel_rfl))
     try simp only[Act.put,sA,sZ,sS]
     apply aY (i:=6);exact rfl;exact rfl;kernel_rfl;(intro W hW;obtain⟨z0,z1,z2,z3,z4,z5,z6⟩:=FA.out W hW;(try clear hW);go_simp;with_reducible rfl);try simp only[Act.put,sA,sZ,sS]
     apply aY (i:=7);exact rfl;exact rfl;kernel_rfl;(intro W hW;obtain⟨z0,z1,z2,z3,z4,z5,z6⟩:=FA.out W hW;(try clear hW);go_simp;with_reducible rfl);try simp only[Act.put,sA,sZ,sS]
     clear FA;have GD:Hid (aB wr wr.drew):=(aB.refl _).dr;have EW:Hid (wr.drew.heap.size=wr.heap.size):=rfl;generalize wr.drew=wb at*;have SB:Hid (w.heap.size<=wr.heap.size):=BX.out.gr.size;refine dC (rs:=[8,12]) (by intro c a d v w h;cases d<;>exact h) GD.out (by kernel_rfl) rfl ?_;intro i hi;rcases List.mem_cons.1 hi with rfl|hi
     case inl=>
      clear hi;apply bW;exact rfl;exact rfl;intro K hK;go_simp
      try go_at_call 20
      refine FE.out _ (BX.out.gr.tr GD.out) _ ?_ ?_
      ·intro hbad w5 hg5
       have G5:=Lh (GD.out.tr hg5)
       have EM:Hid (ovF z e (FtR.pl ⟨⟨h,id,ty,.slice p1 A.length p2,.slice p3 B.length p4⟩,A,B⟩)=[]):=by
        show _=_;unfold ovF FtR.pl;dsimp only;rw[if_pos (hbad HZ.out PJ.out)]
       clear hbad FE
       try unfold aV
       try unfold Ft.cells
       try dsimp only
       refine hK.out _ _ ?_;clear hK hg5
       try simp only[Act.put,sA,sZ,sS]
       apply aY (i:=9);exact rfl;exact rfl;kernel_rfl;(intro W hW;(try clear hW);go_simp;with_reducible rfl);try simp only[Act.put,sA,sZ,sS]
       apply aY (i:=10);exact rfl;exact rfl;kernel_rfl;(intro W hW;(try clear hW);go_simp;with_reducible rfl);try simp only[Act.put,sA,sZ,sS]
       apply aY (i:=11);exact rfl;exact rfl;kernel_rfl;(intro W hW;(try clear hW);go_simp;with_reducible rfl);try simp only[Act.put,sA,sZ,sS]
       refine dC (rs:=[12]) (by intro c a d v w h;cases d<;>exact h) G5.out (by kernel_rfl) rfl ?_;intro i hi;obtain rfl:=List.mem_singleton.1 hi;clear hi;apply bW;exact rfl;exact rfl;intro K hK;go_simp;refine hK.out _ _ ?_;clear hK
       try simp only[Act.put,sA,sZ,sS]
       have F0:Hid ((w5.alloc (.cells #[.bool false,.int .u64 0,.int .i64 0,.slice none 0 0,.slice none 0 0] 44)).heap[w5.heap.size]? =some (.cells #[.bool false,.int .u64 0,.int .i64 0,.slice none 0 0,.slice none 0 0] 44 (0,0))):=heap_alloc_new _ _;have GU:Hid (aB wr (w5.alloc (.cells #[.bool false,.int .u64 0,.int .i64 0,.slice none 0 0,.slice none 0 0] 44))):=G5.out.al _;have GL:Hid (aB w5 (w5.alloc (.cells #[.bool false,.int .u64 0,.int .i64 0,.slice none 0 0,.slice none 0 0] 44))):=(aB.refl _).al _
       have L1:Hid (wr.heap.size<=w5.heap.size):=G5.out.size;generalize w5.alloc (.cells #[.bool false,.int .u64 0,.int .i64 0,.slice none 0 0,.slice none 0 0] 44)=U at*
       obtain⟨fb,hfb⟩:∃ fb,w5.heap.size=fb:=⟨_,rfl⟩
       rw[hfb] at F0 L1;rw[hfb];have EF:=Lh hfb;clear hfb;clear EF GL;refine dC (rs:=[13]) (by intro c a d v w h;cases d<;>exact h) GU.out (by kernel_rfl) rfl ?_;intro i hi;obtain rfl:=List.mem_singleton.1 hi;clear hi;apply bW;exact rfl;exact rfl;intro K hK;refine wp_store_row 44 _ _ rfl fb #[.bool false,.int .u64 0,.int .i64 0,.slice none 0 0,.slice none 0 0] rfl rfl 44 _ F0.out (by kernel_rfl) rfl (by simp[Value.oneCell']) ?_
       have BG:Hid ((U.setRow fb #[.bool false,.int .u64 0,.int .i64 0,.slice none 0 0,.slice none 0 0]).heap[fb]? =some (.cells #[.bool false,.int .u64 0,.int .i64 0,.slice none 0 0,.slice none 0 0] 44 (0,0))):=setRow_heap _ _ _ _ _ _ F0.out;have GU:Hid (aB wr (U.setRow fb #[.bool false,.int .u64 0,.int .i64 0,.slice none 0 0,.slice none 0 0])):=GU.out.row2 L1.out _;refine hK.out _ _ ?_;clear hK;simp only[Act.put]
       apply aY (i:=14);exact rfl;exact rfl;kernel_rfl;(intro W hW;(try clear hW);go_simp;with_reducible rfl);try simp only[Act.put,sA,sZ,sS]
       refine gZ (by intro c a d v w h;cases d<;>exact h) GU.out (by kernel_rfl) ?_;clear F0 L1 BG;have BX:=Lh (BX.out.tr GU.out);have HO:=Lh (aC GU.out HO.out);have HS:=Lh (HS.out.gr GU.out);clear GU;generalize U.setRow fb #[.bool false,.int .u64 0,.int .i64 0,.slice none 0 0,.slice none 0 0]=w6 at*;go_wp2;go_roundw
       case rel=>exact⟨k+1,by omega,by go_num,⟨ov,F',by rw[Q1.out,TJ.out,EM.out,List.append_nil],by omega,HO.out,HS.out⟩,BX.out⟩
       case measure=>simp[intOf];omega
      ·intro _ _ hne pv1 av1 rows w5 hg5 hp1 hr1 hm1 ha1
       have G5:=Lh (GD.out.tr hg5)
       have EM:Hid (ovF z e (FtR.pl ⟨⟨h,id,ty,.slice p1 A.length p2,.slice p3 B.length p4⟩,A,B⟩)=[FtR.pl ⟨⟨h,id,ty,pv1,av1⟩,rows,B⟩]):=by
        show _=_;unfold ovF FtR.pl;dsimp only;rw[if_neg hne,hm1]
       have XR:Hid ((⟨⟨h,id,ty,pv1,av1⟩,rows,B⟩:FtR).rd w5 (fun b=>(wb.heap.size<=b∨b<w.heap.size))):=
        ⟨hp1.into fun b hb=>.inl hb,fun r hr=>Rd.into (hr1 r hr) fun b hb=>.inl hb,ha1⟩
       have XR:=Lh XR.out.lt2;obtain⟨P1,P2,P3,P4,e1,e2⟩:=XR.out.fm2;dsimp only at e1 e2;subst e1 e2;clear FE hp1 hr1 hm1 ha1 hne
       try unfold Ft.cells
       try dsimp only
       refine hK.out _ _ ?_;clear hK hg5
       try simp only[Act.put,sA,sZ,sS]
       apply aY (i:=9);exact rfl;exact rfl;kernel_rfl;(intro W hW;(try clear hW);go_simp;with_reducible rfl);try simp only[Act.put,sA,sZ,sS]
       apply aY (i:=10);exact rfl;exact rfl;kernel_rfl;(intro W hW;(try clear hW);go_simp;with_reducible rfl);try simp only[Act.put,sA,sZ,sS]
       apply aY (i:=11);exact rfl;exact rfl;kernel_rfl;(intro W hW;(try clear hW);go_simp;with_reducible rfl);try simp only[Act.put,sA,sZ,sS]
       refine dC (rs:=[12]) (by intro c a d v w h;cases d<;>exact h) G5.out (by kernel_rfl) rfl ?_;intro i hi;obtain rfl:=List.mem_singleton.1 hi;clear hi;apply bW;exact rfl;exact rfl;intro K hK;go_simp;refine hK.out _ _ ?_;clear hK
       try simp only[Act.put,sA,sZ,sS]
       have F0:Hid ((w5.alloc (.cells #[.bool false,.int .u64 0,.int .i64 0,.slice none 0 0,.slice none 0 0] 44)).heap[w5.heap.size]? =some (.cells #[.bool false,.int .u64 0,.int .i64 0,.slice none 0 0,.slice none 0 0] 44 (0,0))):=heap_alloc_new _ _;have GU:Hid (aB wr (w5.alloc (.cells #[.bool false,.int .u64 0,.int .i64 0,.slice none 0 0,.slice none 0 0] 44))):=G5.out.al _;have GL:Hid (aB w5 (w5.alloc (.cells #[.bool false,.int .u64 0,.int .i64 0,.slice none 0 0,.slice none 0 0] 44))):=(aB.refl _).al _
       have L1:Hid (wr.heap.size<=w5.heap.size):=G5.out.size;generalize w5.alloc (.cells #[.bool false,.int .u64 0,.int .i64 0,.slice none 0 0,.slice none 0 0] 44)=U at*
       obtain⟨fb,hfb⟩:∃ fb,w5.heap.size=fb:=⟨_,rfl⟩
       rw[hfb] at F0 L1;rw[hfb];have EF:=Lh hfb;clear hfb;have XR:=Lh ((XR.out.gr GL.out).into fun b hb=>(⟨hb.1.imp (fun h=>by have:=EW.out;omega) fun h=>h,by have:=hb.2;have:=EF.out;omega⟩:(wr.heap.size<=b∨b<w.heap.size)/\b≠fb));clear EF GL
       have XN:Hid ((⟨⟨h,id,ty,.slice P1 rows.length P2,.slice P3 B.length P4⟩,rows,B⟩:FtR).rd (U.setRow fb #[.bool h,.int .u64 id,.int .i64 ty,.slice P1 rows.length P2,.slice P3 B.length P4]) (fun b=>wr.heap.size<=b∨b<w.heap.size)):=by
        have key:∀ b,((wr.heap.size<=b∨b<w.heap.size)/\b≠fb)->(U.setRow fb #[.bool h,.int .u64 id,.int .i64 ty,.slice P1 rows.length P2,.slice P3 B.length P4]).heap[b]? =U.heap[b]? :=fun b hb=>setRow_other _ _ _ _ hb.2
        exact FtR.rd.into ⟨XR.out.1.keep key,fun r hr=>Rd.keep (XR.out.2.1 r hr) key,XR.out.2.2.keep key⟩ fun b hb=>hb.1
       refine dC (rs:=[13]) (by intro c a d v w h;cases d<;>exact h) GU.out (by kernel_rfl) rfl ?_;intro i hi;obtain rfl:=List.mem_singleton.1 hi;clear hi;apply bW;exact rfl;exact rfl;intro K hK;refine wp_store_row 44 _ _ rfl fb #[.bool h,.int .u64 id,.int .i64 ty,.slice P1 rows.length P2,.slice P3 B.length P4] rfl rfl 44 _ F0.out (by kernel_rfl) rfl (by simp[Value.oneCell']) ?_
       have BG:Hid ((U.setRow fb #[.bool h,.int .u64 id,.int .i64 ty,.slice P1 rows.length P2,.slice P3 B.length P4]).heap[fb]? =some (.cells #[.bool h,.int .u64 id,.int .i64 ty,.slice P1 rows.length P2,.slice P3 B.length P4] 44 (0,0))):=setRow_heap _ _ _ _ _ _ F0.out;have GU:Hid (aB wr (U.setRow fb #[.bool h,.int .u64 id,.int .i64 ty,.slice P1 rows.length P2,.slice P3 B.length P4])):=GU.out.row2 L1.out _;refine hK.out _ _ ?_;clear hK;simp only[Act.put]
       apply aY (i:=14);exact rfl;exact rfl;kernel_rfl;(intro W hW;(try clear hW);go_simp;with_reducible rfl);try simp only[Act.put,sA,sZ,sS]
       refine gZ (by intro c a d v w h;cases d<;>exact h) GU.out (by kernel_rfl) ?_;clear F0 L1 XR
       have NB:Hid (∀ b,(b=w.heap.size+1+1∨b=bo)->w.heap.size<=b/\b<wr.heap.size):=fun b hb=>by
        have:=lt_of_block HO.out;have:=lt_of_block BX.out.br;have:=LBO.out;rcases hb with rfl|rfl<;>omega
       generalize U.setRow fb #[.bool h,.int .u64 id,.int .i64 ty,.slice P1 rows.length P2,.slice P3 B.length P4]=w6 at*;have XN:=Lh (HS.out.fresh NB.out XN.out);have BX:=Lh (BX.out.tr GU.out);have HO:=Lh (aC GU.out HO.out);have HS:=Lh (HS.out.gr GU.out);clear GU NB;obtain⟨O1,O2,hov⟩:=aH HS.out.own;subst hov;have o2:=cell_of_row _ _ 2 _ _ _ HO.out;have SZ:w.heap.size<=w6.heap.size:=BX.out.gr.size
       go_wp2_with (first|(refine wpList_load_row rfl 44 _ rfl fb rfl 44 _ _ _ BG.out Tryz.underlying44 rfl (by kernel_rfl) ?_)|(at_builtin;refine dU rfl _ _ rfl xH HS.out.own rfl 1 _ rfl _ rfl (by decide) rfl (by simp[Value.oneCell']) (by omega) SZ ?_;intro v7 w7 hown7 hgr7 hb7;obtain⟨A7,k7,hv7⟩:=aH hown7;subst hv7;have S7:=Lh (HS.out.app (g:=⟨⟨h,id,ty,.slice P1 rows.length P2,.slice P3 B.length P4⟩,rows,B⟩) hgr7 (aO hown7 (by simp) (by simp[Fts,FtR.cells,Ft.cells])) hb7 XN.out);have BX7:=Lh (BX.out.tn HS.out.own LBO.out (Nat.le_refl _) (Tn.by_ (D:=fun b=>b=bo∨(Value.slice O1 F'.length O2).ownBlock=some b) hgr7 fun k hk=>.inr hk));have HO7:=Lh ((hgr7.block bo (lt_of_block HO.out) (fun e=>bR HS.out.own HO.out (by decide) e.symm)).trans HO.out);have g7:=frozen_of_row _ bo 2 _ _ HO7.out;have c7:=cell_of_row _ bo 2 _ _ _ HO7.out;have NE7:=Lh (qM (bR HS.out.own HO.out (by decide)) (lt_of_block HO.out) hb7);clear hown7 hgr7 hb7 o2))
       have BX8:=Lh (BX7.out.tn S7.out.own LBO.out (Nat.le_refl _) ((kU w7 bo 2 (.slice A7 (F'.length+1) k7)).into fun j hj=>.inl hj));go_roundw
       case rel=>exact⟨k+1,by omega,by go_num,⟨(.slice A7 (F'.length+1) k7),F'++[⟨⟨h,id,ty,.slice P1 rows.length P2,.slice P3 B.length P4⟩,rows,B⟩],by rw[List.map_append,Q1.out,TJ.out,EM.out];rfl,by rw[List.length_append];show _+1<=_;omega,aF HO7.out 2 (.slice A7 (F'.length+1) k7),S7.out.set NE7.out (.inr rfl)⟩,BX8.out⟩
       case measure=>simp[intOf];omega
     case inr=>
      obtain rfl:=List.mem_singleton.1 hi;clear hi;apply bW;exact rfl;exact rfl;intro K hK;go_simp;refine hK.out _ _ ?_;clear hK
      try simp only[Act.put,sA,sZ,sS]
      have F0:Hid ((wb.alloc (.cells #[.bool false,.int .u64 0,.int .i64 0,.slice none 0 0,.slice none 0 0] 44)).heap[wb.heap.size]? =some (.cells #[.bool false,.int .u64 0,.int .i64 0,.slice none 0 0,.slice none 0 0] 44 (0,0))):=heap_alloc_new _ _;have GV:Hid (aB wr (wb.alloc (.cells #[.bool false,.int .u64 0,.int .i64 0,.slice none 0 0,.slice none 0 0] 44))):=GD.out.al _;have L1:Hid (wr.heap.size<=wb.heap.size):=GD.out.size
      have L2:Hid (wb.heap.size<(wb.alloc (.cells #[.bool false,.int .u64 0,.int .i64 0,.slice none 0 0,.slice none 0 0] 44)).heap.size):=lt_of_block F0.out;generalize wb.alloc (.cells #[.bool false,.int .u64 0,.int .i64 0,.slice none 0 0,.slice none 0 0] 44)=wv at*
      obtain⟨fb,hfb⟩:∃ fb,wb.heap.size=fb:=⟨_,rfl⟩
      rw[hfb] at F0 L1 L2;rw[hfb];clear hfb;refine dC (rs:=[8]) (by intro c a d v w h;cases d<;>exact h) GV.out (by kernel_rfl) rfl ?_;intro i hi;obtain rfl:=List.mem_singleton.1 hi;clear hi;apply bW;exact rfl;exact rfl;intro K hK;go_simp
      try go_at_call 20
      refine FE.out _ (BX.out.gr.tr GV.out) _ ?_ ?_
      ·intro hbad w5 hg5
       have GU:=Lh (GV.out.tr hg5);have F0:=Lh (aC hg5 F0.out)
       have EM:Hid (ovF z e (FtR.pl ⟨⟨h,id,ty,.slice p1 A.length p2,.slice p3 B.length p4⟩,A,B⟩)=[]):=by
        show _=_;unfold ovF FtR.pl;dsimp only;rw[if_pos (hbad HZ.out PJ.out)]
       clear hbad FE
       try unfold aV
       try unfold Ft.cells
       try dsimp only
       refine hK.out _ _ ?_;clear hK hg5 GV L2
       try simp only[Act.put,sA,sZ,sS]
       apply aY (i:=9);exact rfl;exact rfl;kernel_rfl;(intro W hW;(try clear hW);go_simp;with_reducible rfl);try simp only[Act.put,sA,sZ,sS]
       apply aY (i:=10);exact rfl;exact rfl;kernel_rfl;(intro W hW;(try clear hW);go_simp;with_reducible rfl);try simp only[Act.put,sA,sZ,sS]
       apply aY (i:=11);exact rfl;exact rfl;kernel_rfl;(intro W hW;(try clear hW);go_simp;with_reducible rfl);try simp only[Act.put,sA,sZ,sS]
       rename World=>U
       refine dC (rs:=[13]) (by intro c a d v w h;cases d<;>exact h) GU.out (by kernel_rfl) rfl ?_;intro i hi;obtain rfl:=List.mem_singleton.1 hi;clear hi;apply bW;exact rfl;exact rfl;intro K hK;refine wp_store_row 44 _ _ rfl fb #[.bool false,.int .u64 0,.int .i64 0,.slice none 0 0,.slice none 0 0] rfl rfl 44 _ F0.out (by kernel_rfl) rfl (by simp[Value.oneCell']) ?_
       have BG:Hid ((U.setRow fb #[.bool false,.int .u64 0,.int .i64 0,.slice none 0 0,.slice none 0 0]).heap[fb]? =some (.cells #[.bool false,.int .u64 0,.int .i64 0,.slice none 0 0,.slice none 0 0] 44 (0,0))):=setRow_heap _ _ _ _ _ _ F0.out;have GU:Hid (aB wr (U.setRow fb #[.bool false,.int .u64 0,.int .i64 0,.slice none 0 0,.slice none 0 0])):=GU.out.row2 L1.out _;refine hK.out _ _ ?_;clear hK;simp only[Act.put]
       apply aY (i:=14);exact rfl;exact rfl;kernel_rfl;(intro W hW;(try clear hW);go_simp;with_reducible rfl);try simp only[Act.put,sA,sZ,sS]
       refine gZ (by intro c a d v w h;cases d<;>exact h) GU.out (by kernel_rfl) ?_;clear F0 L1 BG;have BX:=Lh (BX.out.tr GU.out);have HO:=Lh (aC GU.out HO.out);have HS:=Lh (HS.out.gr GU.out);clear GU;generalize U.setRow fb #[.bool false,.int .u64 0,.int .i64 0,.slice none 0 0,.slice none 0 0]=w6 at*;go_wp2;go_roundw
       case rel=>exact⟨k+1,by omega,by go_num,⟨ov,F',by rw[Q1.out,TJ.out,EM.out,List.append_nil],by omega,HO.out,HS.out⟩,BX.out⟩
       case measure=>simp[intOf];omega
      ·intro _ _ hne pv1 av1 rows w5 hg5 hp1 hr1 hm1 ha1
       have GU:=Lh (GV.out.tr hg5);have F0:=Lh (aC hg5 F0.out)
       have EM:Hid (ovF z e (FtR.pl ⟨⟨h,id,ty,.slice p1 A.length p2,.slice p3 B.length p4⟩,A,B⟩)=[FtR.pl ⟨⟨h,id,ty,pv1,av1⟩,rows,B⟩]):=by
        show _=_;unfold ovF FtR.pl;dsimp only;rw[if_neg hne,hm1]
       have XR:Hid ((⟨⟨h,id,ty,pv1,av1⟩,rows,B⟩:FtR).rd w5 (fun b=>(wv.heap.size<=b∨b<w.heap.size))):=
        ⟨hp1.into fun b hb=>.inl hb,fun r hr=>Rd.into (hr1 r hr) fun b hb=>.inl hb,ha1⟩
       have XR:=Lh XR.out.lt2;obtain⟨P1,P2,P3,P4,e1,e2⟩:=XR.out.fm2;dsimp only at e1 e2;subst e1 e2;clear FE hp1 hr1 hm1 ha1 hne
       try unfold Ft.cells
       try dsimp only
       have XR:=Lh (XR.out.into fun b hb=>(⟨hb.1.imp (fun h=>by have:=L1.out;have:=L2.out;omega) fun h=>h,by have:=L2.out;have:=L1.out;have:=SB.out;rcases hb.1 with h|h<;>omega⟩:(wr.heap.size<=b∨b<w.heap.size)/\b≠fb));refine hK.out _ _ ?_;clear hK hg5 GV L2
       try simp only[Act.put,sA,sZ,sS]
       apply aY (i:=9);exact rfl;exact rfl;kernel_rfl;(intro W hW;(try clear hW);go_simp;with_reducible rfl);try simp only[Act.put,sA,sZ,sS]
       apply aY (i:=10);exact rfl;exact rfl;kernel_rfl;(intro W hW;(try clear hW);go_simp;with_reducible rfl);try simp only[Act.put,sA,sZ,sS]
       apply aY (i:=11);exact rfl;exact rfl;kernel_rfl;(intro W hW;(try clear hW);go_simp;with_reducible rfl);try simp only[Act.put,sA,sZ,sS]
       rename World=>U
       have XN:Hid ((⟨⟨h,id,ty,.slice P1 rows.length P2,.slice P3 B.length P4⟩,rows,B⟩:FtR).rd (U.setRow fb #[.bool h,.int .u64 id,.int .i64 ty,.slice P1 rows.length P2,.slice P3 B.length P4]) (fun b=>wr.heap.size<=b∨b<w.heap.size)):=by
        have key:∀ b,((wr.heap.size<=b∨b<w.heap.size)/\b≠fb)->(U.setRow fb #[.bool h,.int .u64 id,.int .i64 ty,.slice P1 rows.length P2,.slice P3 B.length P4]).heap[b]? =U.heap[b]? :=fun b hb=>setRow_other _ _ _ _ hb.2
        exact FtR.rd.into ⟨XR.out.1.keep key,fun r hr=>Rd.keep (XR.out.2.1 r hr) key,XR.out.2.2.keep key⟩ fun b hb=>hb.1
       refine dC (rs:=[13]) (by intro c a d v w h;cases d<;>exact h) GU.out (by kernel_rfl) rfl ?_;intro i hi;obtain rfl:=List.mem_singleton.1 hi;clear hi;apply bW;exact rfl;exact rfl;intro K hK;refine wp_store_row 44 _ _ rfl fb #[.bool h,.int .u64 id,.int .i64 ty,.slice P1 rows.length P2,.slice P3 B.length P4] rfl rfl 44 _ F0.out (by kernel_rfl) rfl (by simp[Value.oneCell']) ?_
       have BG:Hid ((U.setRow fb #[.bool h,.int .u64 id,.int .i64 ty,.slice P1 rows.length P2,.slice P3 B.length P4]).heap[fb]? =some (.cells #[.bool h,.int .u64 id,.int .i64 ty,.slice P1 rows.length P2,.slice P3 B.length P4] 44 (0,0))):=setRow_heap _ _ _ _ _ _ F0.out;have GU:Hid (aB wr (U.setRow fb #[.bool h,.int .u64 id,.int .i64 ty,.slice P1 rows.length P2,.slice P3 B.length P4])):=GU.out.row2 L1.out _;refine hK.out _ _ ?_;clear hK;simp only[Act.put]
       apply aY (i:=14);exact rfl;exact rfl;kernel_rfl;(intro W hW;(try clear hW);go_simp;with_reducible rfl);try simp only[Act.put,sA,sZ,sS]
       refine gZ (by intro c a d v w h;cases d<;>exact h) GU.out (by kernel_rfl) ?_;clear F0 L1 XR
       have NB:Hid (∀ b,(b=w.heap.size+1+1∨b=bo)->w.heap.size<=b/\b<wr.heap.size):=fun b hb=>by
        have:=lt_of_block HO.out;have:=lt_of_block BX.out.br;have:=LBO.out;rcases hb with rfl|rfl<;>omega
       generalize U.setRow fb #[.bool h,.int .u64 id,.int .i64 ty,.slice P1 rows.length P2,.slice P3 B.length P4]=w6 at*;have XN:=Lh (HS.out.fresh NB.out XN.out);have BX:=Lh (BX.out.tr GU.out);have HO:=Lh (aC GU.out HO.out);have HS:=Lh (HS.out.gr GU.out);clear GU NB;obtain⟨O1,O2,hov⟩:=aH HS.out.own;subst hov;have o2:=cell_of_row _ _ 2 _ _ _ HO.out;have SZ:w.heap.size<=w6.heap.size:=BX.out.gr.size
       go_wp2_with (first|(refine wpList_load_row rfl 44 _ rfl fb rfl 44 _ _ _ BG.out Tryz.underlying44 rfl (by kernel_rfl) ?_)|(at_builtin;refine dU rfl _ _ rfl xH HS.out.own rfl 1 _ rfl _ rfl (by decide) rfl (by simp[Value.oneCell']) (by omega) SZ ?_;intro v7 w7 hown7 hgr7 hb7;obtain⟨A7,k7,hv7⟩:=aH hown7;subst hv7;have S7:=Lh (HS.out.app (g:=⟨⟨h,id,ty,.slice P1 rows.length P2,.slice P3 B.length P4⟩,rows,B⟩) hgr7 (aO hown7 (by simp) (by simp[Fts,FtR.cells,Ft.cells])) hb7 XN.out);have BX7:=Lh (BX.out.tn HS.out.own LBO.out (Nat.le_refl _) (Tn.by_ (D:=fun b=>b=bo∨(Value.slice O1 F'.length O2).ownBlock=some b) hgr7 fun k hk=>.inr hk));have HO7:=Lh ((hgr7.block bo (lt_of_block HO.out) (fun e=>bR HS.out.own HO.out (by decide) e.symm)).trans HO.out);have g7:=frozen_of_row _ bo 2 _ _ HO7.out;have c7:=cell_of_row _ bo 2 _ _ _ HO7.out;have NE7:=Lh (qM (bR HS.out.own HO.out (by decide)) (lt_of_block HO.out) hb7);clear hown7 hgr7 hb7 o2))
       have BX8:=Lh (BX7.out.tn S7.out.own LBO.out (Nat.le_refl _) ((kU w7 bo 2 (.slice A7 (F'.length+1) k7)).into fun j hj=>.inl hj));go_roundw
       case rel=>exact⟨k+1,by omega,by go_num,⟨(.slice A7 (F'.length+1) k7),F'++[⟨⟨h,id,ty,.slice P1 rows.length P2,.slice P3 B.length P4⟩,rows,B⟩],by rw[List.map_append,Q1.out,TJ.out,EM.out];rfl,by rw[List.length_append];show _+1<=_;omega,aF HO7.out 2 (.slice A7 (F'.length+1) k7),S7.out.set NE7.out (.inr rfl)⟩,BX8.out⟩
       case measure=>simp[intOf];omega
    ·obtain rfl:k=F.length:=by omega
     rw[List.take_length] at Q1;obtain⟨O1,O2,hov⟩:=aH HS.out.own;subst hov;have FIN:=Lh (HR.out ⟨nm,e,(.slice O1 F'.length O2),F'⟩ 0 (wr.setRow (w.heap.size+1+1) #[.string nm,.int .i64 e,(.slice O1 F'.length O2)]) (by rw[E.out];unfold LyR.pl;dsimp only;rw[Q1.out]) (HS.out.done BX.out.br (.inl rfl)) (BX.out.gr.row2 (show w.heap.size<=w.heap.size+1+1 by omega) _));clear HR HS
     go_wp2_with (first|(refine wpList_load_row rfl 24 _ rfl bo rfl 24 _ _ _ HO.out Tryz.underlying24 rfl (by kernel_rfl) ?_)|(refine wpList_store_row rfl 24 _ _ rfl (w.heap.size+1+1) #[.string nm,.int .i64 e,(.slice O1 F'.length O2)] rfl rfl 24 _ BX.out.br (by kernel_rfl) rfl (by simp[Value.oneCell']) ?_))
     refine bodyPost_ret (v:=.tuple #[.agg #[.string nm,.int .i64 e,(.slice O1 F'.length O2)],.int .i64 0]) ?_ rfl FIN.out;exact aQ rfl _ _ (w.heap.size+1+1) _ _ _ _ rfl (setRow_heap _ _ _ _ _ _ BX.out.br) rfl rfl Tryz.underlying24 (by kernel_rfl)
end Go.Proofs.YtjalimkajcjapaaGreatDoor
