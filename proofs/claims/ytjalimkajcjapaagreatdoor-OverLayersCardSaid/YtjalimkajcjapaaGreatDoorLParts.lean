import Derived.Test.YtjalimkajcjapaaGreatDoorLin3
import Derived.Test.YtjalimkajcjapaaGreatDoorRngB
namespace Go.Proofs.YtjalimkajcjapaaGreatDoor
set_option maxRecDepth 100000
open Go.RowKit B
theorem el_srow:jT Tryz.prog 98 102 (.slice none 0 0) 1 24:=⟨by kernel_rfl,by kernel_rfl,rfl,by decide,by decide⟩
def fL (W:World)(v v':Value):Prop:=v'.ownBlock=v.ownBlock∨∃ k,v'.ownBlock=some k/\W.heap.size<=k
structure LSt (w0:World) (pb qb:Nat) (pv qv:Value) (rows:List dB) (part:List aW) (W:World):Prop where
 bp:aN w0 pb #[pv] 98 W
 bq:aN w0 qb #[qv] 102 W
 ne:pb≠qb
 op:W.ownsRow w0.heap.size 102 1 pv rows.length (rows.map dB.v)
 oq:W.ownsRow w0.heap.size 132 6 qv part.length (eH part)
 pp:pv.ownBlock≠some pb/\pv.ownBlock≠some qb
 qq:qv.ownBlock≠some pb/\qv.ownBlock≠some qb
 pq:∀ k,qv.ownBlock=some k->pv.ownBlock≠some k
 each:∀ r∈rows,Rd W (fun b=>some b≠pv.ownBlock/\some b≠qv.ownBlock/\b≠pb/\b≠qb) 6 r.v r.l.length (eH r.l)
theorem Rd.and_lt0 {w:World}{S:Nat->Prop}{size n:Nat}{v:Value}{xs:List Value}(h:Rd w S size v n xs)(h0:0<size):Rd w (fun b=>S b/\b<w.heap.size) size v n xs:=by
 have hl:=h.lt h0;obtain⟨hl0,A,c,hv,h1,h2,h3,h4⟩:=h;refine⟨hl0,A,c,hv,h1,h2,h3,fun hn=>?_⟩;obtain⟨b,o,hA,hSb,hc⟩:=h4 hn;have hx:0<xs.length:=by rw[hl0];exact Nat.mul_pos hn h0
 exact⟨b,o,hA,⟨hSb,World.block_lt_of_cell? w _ (hc 0 xs[0] (List.getElem?_eq_getElem hx))⟩,hc⟩
theorem LSt.tr {w0:World}{pb qb:Nat}{pv qv:Value}{rows:List dB}{part:List aW}{W W':World}(h:LSt w0 pb qb pv qv rows part W)(hg:aB W W'):LSt w0 pb qb pv qv rows part W':=
 ⟨h.bp.tr hg,h.bq.tr hg,h.ne,aJ h.op hg,aJ h.oq hg,h.pp,h.qq,h.pq,fun r hr=>(h.each r hr).gr2 (by decide) hg⟩
theorem fL.ne {W:World}{v v':Value}{b:Nat}(h:fL W v v')(hb:b<W.heap.size)(hv:v.ownBlock≠some b):v'.ownBlock≠some b:=by
 rcases h with h|⟨k,h,hk⟩
 ·rw[h];exact hv
 ·rw[h];intro e;injection e with e;omega
theorem grown_two {W W1 W2:World}{v v1:Value}(h1:W.grownBy W1 v.ownBlock)(hf:fL W v v1)(h2:W1.grownBy W2 v1.ownBlock):W.grownBy W2 v.ownBlock:=
 ⟨h2.os.trans h1.os,h2.tape.trans h1.tape,h2.output.trans h1.output,Nat.le_trans h1.size h2.size,fun k hk hne=>by
  rw[h2.block k (Nat.lt_of_lt_of_le hk h1.size) ?_,h1.block k hk hne]
  rcases hf with e|⟨j,e,hj⟩
  ·rw[e];exact hne
  ·rw[e];intro e2;injection e2 with e2;omega⟩
theorem fL.two {W W1:World}{v v1 v2:Value}(hs:W.heap.size<=W1.heap.size)(h1:fL W v v1)(h2:fL W1 v1 v2):fL W v v2:=by
 rcases h2 with e|⟨k,e,hk⟩
 ·rcases h1 with e1|⟨j,e1,hj⟩
  ·exact .inl (e.trans e1)
  ·exact .inr ⟨j,e.trans e1,hj⟩
 ·exact .inr ⟨k,e,Nat.le_trans hs hk⟩
theorem uQ {w:World}(b j:Nat)(v:Value):w.grownBy (w.setCell ⟨b,j,none⟩ v) (some b):=
 ⟨rfl,rfl,rfl,by rw[dK];exact Nat.le_refl _,fun k hk hne=>by
  have e:b≠k:=fun e=>hne (by rw[e])
  simp[World.setCell,Array.getElem?_modify,e]⟩
theorem LSt.put {w0:World}{pb qb:Nat}{pv qv qv':Value}{rows:List dB}{part part':List aW}{W W':World}(h:LSt w0 pb qb pv qv rows part W)
  (hg:W.grownBy W' qv.ownBlock) (ho:W'.ownsRow w0.heap.size 132 6 qv' part'.length (eH part')) (hf:fL W qv qv'):
  LSt w0 pb qb pv qv' rows part' (W'.setCell ⟨qb,0,none⟩ qv'):=by
 have hge:∀ k,qv.ownBlock=some k->w0.heap.size<=k:=cA h.oq;have b1:=h.bp.by_ hg hge (fun e=>h.qq.1 e.symm);have b2:=h.bq.by_ hg hge (fun e=>h.qq.2 e.symm);have q1:qv'.ownBlock≠some pb:=hf.ne h.bp.lt h.qq.1;have q2:qv'.ownBlock≠some qb:=hf.ne h.bq.lt h.qq.2
 have pk:pv.ownBlock=none∨pv.ownBlock≠qv.ownBlock:=by
  cases e:pv.ownBlock with
  |none=>exact .inl rfl
  |some k=>exact .inr fun e2=>h.pq k e2.symm e
 have op1:=h.op.kept hg pk;refine⟨b1.other h.ne b2.2.1,?_,h.ne,fO op1 h.pp.2,fO ho q2,h.pp,⟨q1,q2⟩,?_,?_⟩
 ·have:=b2.set 0 qv'
  simpa using this
 ·intro k hk e
  rcases hf with e1|⟨j,e1,hj⟩
  ·exact h.pq k (e1.symm.trans hk) e
  ·rw[hk] at e1
   injection e1 with e1
   have:=(h.op.lt k e).2;omega
 ·intro r hr
  have h1:=((h.each r hr).and_lt0 (by decide)).by_ (by decide) hg (fun b hb=>hb.1.2.1)
  refine(h1.by_ (by decide) (uQ qb 0 qv') (fun b hb e=>hb.1.2.2.2 (by injection e))).into fun b hb=>⟨hb.1.1,?_,hb.1.2.2.1,hb.1.2.2.2⟩
  intro e;exact hf.ne hb.2 (fun e2=>hb.1.2.1 e2.symm) e.symm
theorem LSt.fin {w0:World}{pb qb:Nat}{pv qv pv':Value}{rows:List dB}{part:List aW}{W W':World}(h:LSt w0 pb qb pv qv rows part W)
  (hg:W.grownBy W' pv.ownBlock) (ho:W'.ownsRow w0.heap.size 102 1 pv' (rows.length+1) (rows.map dB.v++[qv])) (hf:fL W pv pv'):
  LSt w0 pb qb pv' (.slice none 0 0) (rows++[⟨qv,part⟩]) [] ((W'.setCell ⟨pb,0,none⟩ pv').setCell ⟨qb,0,none⟩ (.slice none 0 0)):=by
 have hge:∀ k,pv.ownBlock=some k->w0.heap.size<=k:=cA h.op;have b1:=h.bp.by_ hg hge (fun e=>h.pp.1 e.symm);have b2:=h.bq.by_ hg hge (fun e=>h.pp.2 e.symm);have p1:pv'.ownBlock≠some pb:=hf.ne h.bp.lt h.pp.1;have p2:pv'.ownBlock≠some qb:=hf.ne h.bq.lt h.pp.2;have b1':=b1.set 0 pv';have b2':=(b2.other (j:=0) (v:=pv') (fun e=>h.ne e.symm) b1.2.1).set 0 (.slice none 0 0);refine⟨?_,by simpa using b2',h.ne,?_,?_,⟨p1,p2⟩,⟨by simp[Value.ownBlock],by simp[Value.ownBlock]⟩,fun k hk=>by simp[Value.ownBlock] at hk,?_⟩
 ·have:=b1'.other (j:=0) (v:=.slice none 0 0) h.ne b2.2.1
  simpa using this
 ·exact aO (fO (fO ho p1) p2) (by simp) (by simp)
 ·exact World.ownsRow_nil _ _ _ _
 ·intro r hr
  have key:Rd W (fun b=>some b≠pv.ownBlock/\b≠pb/\b≠qb) 6 r.v r.l.length (eH r.l):=by
   rcases List.mem_append.1 hr with hr|hr
   ·exact(h.each r hr).into fun b hb=>⟨hb.1,hb.2.2.1,hb.2.2.2⟩
   ·rw[List.mem_singleton.1 hr]
    refine(Rd.own h.oq).into fun b hb=>⟨fun e=>?_,fun e=>?_,fun e=>?_⟩
    ·exact h.pq b hb.symm e.symm
    ·subst e;exact h.qq.1 hb.symm
    ·subst e;exact h.qq.2 hb.symm
  have h1:=(key.and_lt0 (by decide)).by_ (by decide) hg (fun b hb=>hb.1.1);have h2:=h1.by_ (by decide) (uQ pb 0 pv') (fun b hb e=>hb.1.2.1 (by injection e));have h3:=h2.by_ (by decide) (uQ qb 0 (.slice none 0 0)) (fun b hb e=>hb.1.2.2 (by injection e))
  refine h3.into fun b hb=>⟨fun e=>hf.ne hb.2 (fun e2=>hb.1.1 e2.symm) e.symm,by simp[Value.ownBlock],hb.1.2.1,hb.1.2.2⟩
theorem LSt.nil {w0:World}{pb qb:Nat}{W:World}(bp:aN w0 pb #[.slice none 0 0] 98 W)(bq:aN w0 qb #[.slice none 0 0] 102 W)(ne:pb≠qb):LSt w0 pb qb (.slice none 0 0) (.slice none 0 0) [] [] W:=
 ⟨bp,bq,ne,World.ownsRow_nil _ _ _ _,World.ownsRow_nil _ _ _ _,⟨by simp[Value.ownBlock],by simp[Value.ownBlock]⟩,⟨by simp[Value.ownBlock],by simp[Value.ownBlock]⟩,fun k hk=>by simp[Value.ownBlock] at hk,fun r hr=>by simp at hr⟩
def fV (l:List aW)(s:aW):List aW:=if l.getLast? =some s then l else l++[s]
theorem iF {W W':World}{row:Option Nat}(h:aB W W'):W.grownBy W' row:=⟨h.os,h.tape,h.output,h.size,fun k hk _=>h.block k hk⟩
theorem kN {W W1 W2:World}{row:Option Nat}(h1:W.grownBy W1 row)(h2:W1.grownBy W2 row):W.grownBy W2 row:=
 ⟨h2.os.trans h1.os,h2.tape.trans h1.tape,h2.output.trans h1.output,Nat.le_trans h1.size h2.size,fun k hk hne=>by
  rw[h2.block k (Nat.lt_of_lt_of_le hk h1.size) hne,h1.block k hk hne]⟩
theorem aW.split (x s:aW):s=x∨(x≠s/\(((x.x.q==s.x.q)=false)∨(s.x.q=x.x.q/\((((x.x.r:Int)==s.x.r)=false)∨(s.x.r=x.x.r/\((((x.x.d:Int)==s.x.d)=false)∨(s.x.d=x.x.d/\(((x.y.q==s.y.q)=false)∨(s.y.q=x.y.q/\((((x.y.r:Int)==s.y.r)=false)∨(s.y.r=x.y.r/\(((x.y.d:Int)==s.y.d)=false)))))))))))):=by
 obtain⟨⟨a,b,c⟩,⟨d,e,f⟩⟩:=x;obtain⟨⟨a',b',c'⟩,⟨d',e',f'⟩⟩:=s;dsimp only
 by_cases h:(aW.mk ⟨a,b,c⟩ ⟨d,e,f⟩)=⟨⟨a',b',c'⟩,⟨d',e',f'⟩⟩
 ·exact .inl h.symm
 ·refine .inr ⟨h,?_⟩
  simp only[aW.mk.injEq,Fr.mk.injEq] at h;simp only[beq_eq_false_iff_ne];omega
set_option maxHeartbeats 2000000 in
theorem tU (l:List aW)(s:aW)(v:Value)(w0 w:World)(hg0:aB w0 w)(hown:w.ownsRow w0.heap.size 132 6 v l.length (eH l))(hl:l.length<=100000){R:Ending->World->Prop}
  (hR:∀ v' w',w'.ownsRow w0.heap.size 132 6 v' (fV l s).length (eH (fV l s))->w.grownBy w' v.ownBlock->fL w v v'->R (.returned v') w'):
  Calls Tryz.prog 78 #[v,.agg s.cells.toArray] w R:=by
 have HR1:∀ m,fV l s=m->∀ v' w',w'.ownsRow w0.heap.size 132 6 v' m.length (eH m)->w.grownBy w' v.ownBlock->fL w v v'->R (.returned v') w':=by rintro m rfl;exact hR
 have HR:=Lh HR1;clear hR HR1;have HO0:=Lh hown;obtain⟨A,c,rfl⟩:=aH hown;have HD:=Rd.own_lt hown;obtain⟨_,A',c',hv,k1,k2,k3,k4⟩:=HD;injection hv with e1 e2 e3
 clear e2;subst e1 e3;unfold maxLen at k2;clear hown k3;have SPL:=aW.split;have PS:Hid (fV l s=if l.getLast? =some s then l else l++[s]):=rfl;have SC:Hid (eH (l++[s])=eH l++s.cells):=by show _=_;rw[tA];simp[eH]
 have G1:Hid (aB w (w.alloc (.cells s.cells.toArray 132))):=(aB.refl w).al _;have G0:=Lh (hg0.al (.cells s.cells.toArray 132));have BS:=Lh (aN.laid s.cells.toArray 132 (aB.refl w));have HO:=Lh (aJ HO0.out G1.out);clear hg0
 by_cases h0:l.length=0
 ·have t1:IntKind.i64.wrap ((l.length:Int)-1)=-1:=by rw[IntWalk.i64_in _ (by omega)];omega
  have PE:Hid (fV l s=l++[s]):=by
   have:l=[]:=List.eq_nil_of_length_eq_zero h0;subst this;show fV [] s=[]++[s];rfl
  obtain⟨⟨sa,sb,sc⟩,⟨sd,se,sf⟩⟩:=s;unfold aW.cells at*;dsimp only at*;clear SPL k4 h0;go_enter Tryz.func78,Tryz.ntmps78
  go_upto_region 2 with fail
  clear t1;go_wp2_with fail
  generalize w.alloc (.cells #[.int .i64 sa,.int .u64 (sb:Nat),.int .u64 (sc:Nat),.int .i64 sd,.int .u64 (se:Nat),.int .u64 (sf:Nat)] 132)=w1 at*;generalize w.heap.size=bb at*;refine aE (aB w1) ((aB.refl w1).dr) 8 [0,1,2,3,4,5,6,7] (by kernel_rfl) (by kernel_rfl) (by intro c a d v w h;cases d<;>exact h) ?_
  iterate 3 (apply aD;exact rfl;exact rfl;(intro W hW;(try clear hW);go_simp;with_reducible rfl);try simp only[Act.put,sA,sZ,sS])
  iterate 5 (apply bF;exact rfl;exact rfl;try simp only[Act.put,sA,sZ,sS])
  refine aK ?_;simp only[List.drop_succ_cons,List.drop_zero];have HO:=Lh (aJ HO.out (aB.refl _).dr);have BS:=Lh (BS.out.tr (aB.refl _).dr);have G0:=Lh (G0.out.dr);have G1:=Lh (G1.out.dr);have y0:=BS.out.cell 0;have y1:=BS.out.cell 1;have y2:=BS.out.cell 2;have y3:=BS.out.cell 3;have y4:=BS.out.cell 4;have y5:=BS.out.cell 5
  go_wp2_with (at_builtin;refine aM rfl _ _ rfl uJ HO.out rfl 1 _ rfl _ rfl (by decide) rfl (by simp[Value.oneCell']) (by omega) G0.out ⟨Nat.le_refl _,G0.out.size⟩ ?_;intro v5 w5 hO5 hg5 hgr5 hb5;have HO5:=Lh hO5;have GR5:=Lh hgr5;have HB5:=Lh hb5;clear hO5 hg5 hgr5 hb5)
  refine HR.out _ PE.out _ _ (aO HO5.out (by rw[List.length_append,List.length_singleton]) (by rw[SC.out])) (kN (iF G1.out) GR5.out) ?_;rcases HB5.out with h|h
  ·exact .inl h
  ·exact .inr ⟨_,h,by have:=G1.out.size;omega⟩
 ·obtain⟨n,hn⟩:∃ n,l.length=n+1:=⟨l.length-1,by omega⟩
  have t1:IntKind.i64.wrap ((l.length:Int)-1)=(n:Int):=by rw[IntWalk.i64_in _ (by omega)];omega
  have hlt:n<l.length:=by omega
  have hlast:l.getLast? =some l[n]:=by
   rw[List.getLast?_eq_getElem?,hn,Nat.add_sub_cancel,List.getElem?_eq_getElem hlt]
  obtain⟨b,o,rfl,hS,hc⟩:=k4 (by omega);have e0:=fun W (h:aB w W)=>aL aW.cells_len h hS hc hlt
  have PE:=PS.out;rw[hlast] at PE;have PX:=Lh PE;clear k4 hc h0 PS PE hlast hn;generalize l[n]=x at*;have SP:=SPL x s;clear SPL;obtain⟨⟨sa,sb,sc⟩,⟨sd,se,sf⟩⟩:=s;obtain⟨⟨xa,xb,xc⟩,⟨xd,xe,xf⟩⟩:=x;unfold aW.cells at HO SC G1 G0 BS ⊢;dsimp only at*
  have E0:Hid (∀ W,aB w W->W.cell? ⟨b,o+n*6,none⟩=some (.int .i64 xa)/\W.cell? ⟨b,o+n*6+1,none⟩=some (.int .u64 (xb:Nat))/\W.cell? ⟨b,o+n*6+2,none⟩=some (.int .u64 (xc:Nat))/\W.cell? ⟨b,o+n*6+3,none⟩=some (.int .i64 xd)/\W.cell? ⟨b,o+n*6+4,none⟩=some (.int .u64 (xe:Nat))/\W.cell? ⟨b,o+n*6+5,none⟩=some (.int .u64 (xf:Nat))):=fun W h=>⟨e0 W h 0 _ rfl,e0 W h 1 _ rfl,e0 W h 2 _ rfl,e0 W h 3 _ rfl,e0 W h 4 _ rfl,e0 W h 5 _ rfl⟩
  clear e0
  rcases SP with h|⟨hne,h⟩
  ·have PE:Hid (fV l ⟨⟨sa,sb,sc⟩,⟨sd,se,sf⟩⟩=l):=by show _=_;rw[PX.out,h,if_pos rfl]
   simp only[aW.mk.injEq,Fr.mk.injEq] at h;obtain⟨⟨rfl,rfl,rfl⟩,⟨rfl,rfl,rfl⟩⟩:=h;clear PX SC;go_enter Tryz.func78,Tryz.ntmps78
   go_upto_region 2 with fail
   clear t1;go_wp2_with fail
   generalize w.alloc (.cells #[.int .i64 sa,.int .u64 (sb:Nat),.int .u64 (sc:Nat),.int .i64 sd,.int .u64 (se:Nat),.int .u64 (sf:Nat)] 132)=w1 at*;generalize w.heap.size=bb at*;refine aE (fun W=>aB w1 W) ((aB.refl w1).dr) 8 [0,1,2,3,4,5,6,7] (by kernel_rfl) (by kernel_rfl) (by intro c a d v w h;cases d<;>exact h) ?_
   iterate 8 (apply aD;exact rfl;exact rfl;(intro W hW;have hWW:aB w1 W:=hW;obtain⟨x0,x1,x2,x3,x4,x5⟩:=E0.out W (G1.out.tr hWW);have s0:=(BS.out.tr hWW).cell 0;have s1:=(BS.out.tr hWW).cell 1;have s2:=(BS.out.tr hWW).cell 2;have s3:=(BS.out.tr hWW).cell 3;have s4:=(BS.out.tr hWW).cell 4;have s5:=(BS.out.tr hWW).cell 5;clear hWW;(try clear hW);go_simp;with_reducible rfl);try simp only[Act.put,sA,sZ,sS])
   refine aK ?_;simp only[List.drop_succ_cons,List.drop_zero];have HO:=Lh (aJ HO.out (aB.refl _).dr);have BS:=Lh (BS.out.tr (aB.refl _).dr);have G0:=Lh (G0.out.dr);have G1:=Lh (G1.out.dr);go_wp2;exact HR.out _ PE.out _ _ HO.out (iF G1.out) (.inl rfl)
  ·have PE:Hid (fV l ⟨⟨sa,sb,sc⟩,⟨sd,se,sf⟩⟩=l++[⟨⟨sa,sb,sc⟩,⟨sd,se,sf⟩⟩]):=by show _=_;rw[PX.out,if_neg (by simpa using hne)]
   clear hne PX
   rcases h with h|⟨rfl,h|⟨rfl,h|⟨rfl,h|⟨rfl,h|⟨rfl,h⟩⟩⟩⟩⟩
   all_goals
    go_enter Tryz.func78,Tryz.ntmps78
    go_upto_region 2 with fail
    clear t1;go_wp2_with fail
    generalize w.alloc (.cells #[.int .i64 sa,.int .u64 (sb:Nat),.int .u64 (sc:Nat),.int .i64 sd,.int .u64 (se:Nat),.int .u64 (sf:Nat)] 132)=w1 at*;generalize w.heap.size=bb at*;refine aE (fun W=>aB w1 W) ((aB.refl w1).dr) 8 [0,1,2,3,4,5,6,7] (by kernel_rfl) (by kernel_rfl) (by intro c a d v w h;cases d<;>exact h) ?_
    iterate 8 (apply aD;exact rfl;exact rfl;(intro W hW;have hWW:aB w1 W:=hW;obtain⟨x0,x1,x2,x3,x4,x5⟩:=E0.out W (G1.out.tr hWW);have s0:=(BS.out.tr hWW).cell 0;have s1:=(BS.out.tr hWW).cell 1;have s2:=(BS.out.tr hWW).cell 2;have s3:=(BS.out.tr hWW).cell 3;have s4:=(BS.out.tr hWW).cell 4;have s5:=(BS.out.tr hWW).cell 5;clear hWW;(try clear hW);go_simp;with_reducible rfl);try simp only[Act.put,sA,sZ,sS])
    refine aK ?_;simp only[List.drop_succ_cons,List.drop_zero];have HO:=Lh (aJ HO.out (aB.refl _).dr);have BS:=Lh (BS.out.tr (aB.refl _).dr);have G0:=Lh (G0.out.dr);have G1:=Lh (G1.out.dr);have y0:=BS.out.cell 0;have y1:=BS.out.cell 1;have y2:=BS.out.cell 2;have y3:=BS.out.cell 3;have y4:=BS.out.cell 4;have y5:=BS.out.cell 5
    go_wp2_with (at_builtin;refine aM rfl _ _ rfl uJ HO.out rfl 1 _ rfl _ rfl (by decide) rfl (by simp[Value.oneCell']) (by omega) G0.out ⟨Nat.le_refl _,G0.out.size⟩ ?_;intro v5 w5 hO5 hg5 hgr5 hb5;have HO5:=Lh hO5;have GR5:=Lh hgr5;have HB5:=Lh hb5;clear hO5 hg5 hgr5 hb5)
    refine HR.out _ PE.out _ _ (aO HO5.out (by rw[List.length_append,List.length_singleton]) (by rw[SC.out])) (kN (iF G1.out) GR5.out) ?_;rcases HB5.out with h|h
    ·exact .inl h
    ·exact .inr ⟨_,h,by have:=G1.out.size;omega⟩
theorem LSt.clr {w0:World}{pb qb:Nat}{pv qv:Value}{rows:List dB}{part:List aW}{W:World}(h:LSt w0 pb qb pv qv rows part W):
  LSt w0 pb qb pv (.slice none 0 0) rows [] (W.setCell ⟨qb,0,none⟩ (.slice none 0 0)):=by
 have b2:=h.bq.set 0 (.slice none 0 0);refine⟨h.bp.other h.ne h.bq.2.1,by simpa using b2,h.ne,fO h.op h.pp.2,World.ownsRow_nil _ _ _ _,h.pp,⟨by simp[Value.ownBlock],by simp[Value.ownBlock]⟩,fun k hk=>by simp[Value.ownBlock] at hk,fun r hr=>?_⟩
 exact((h.each r hr).by_ (by decide) (uQ qb 0 (.slice none 0 0)) (fun b hb e=>hb.2.2.2 (by injection e))).into fun b hb=>⟨hb.1,by simp[Value.ownBlock],hb.2.2.1,hb.2.2.2⟩
set_option maxHeartbeats 1000000 in
theorem uI (w0:World)(pb qb:Nat)(pv qv:Value)(rows:List dB)(part:List aW)(w:World)(h:LSt w0 pb qb pv qv rows part w)(_hl:part.length<=100000)(hr:rows.length<=100000){R:Ending->World->Prop}
  (hR:∀ v pv' qv' rows' w',LSt w0 pb qb pv' qv' rows' [] w'->rows'.length<=rows.length+1->rows'.map dB.l=rows.map dB.l++(if part=[] then[] else[part])->R (.returned v) w'):
  Calls Tryz.prog 77 #[.pointer (some ⟨qb,0,none⟩),.pointer (some ⟨pb,0,none⟩)] w R:=by
 have HR:=Lh hR;have H:=Lh h;clear hR;have q0:=h.bq.cell 0;have f0:=h.bq.free 0;have p0:=h.bp.cell 0;obtain⟨A,c,hq⟩:=aH h.oq;obtain⟨B,d,hp⟩:=aH h.op;subst hq hp;clear h
 by_cases h0:part=[]
 ·have EC:=Lh H.out.clr
  have ER:Hid (rows.map dB.l=rows.map dB.l++(if part=[] then[] else[part])):=by show _=_;rw[if_pos h0,List.append_nil]
  have t1:decide (0<part.length)=false:=by rw[h0];rfl
  clear h0;go_enter Tryz.func77,Tryz.ntmps77
  go_wp2;exact bodyPost_ret (results_none rfl _ _ _) rfl (HR.out _ _ _ _ _ EC.out (by omega) ER.out)
 ·have ER:Hid (rows.map dB.l++[part]=rows.map dB.l++(if part=[] then[] else[part])):=by show _=_;rw[if_neg h0]
  have t1:decide (0<part.length)=true:=by
   rw[decide_eq_true_eq];exact List.length_pos_iff.2 h0
  clear h0;go_enter Tryz.func77,Tryz.ntmps77
  go_wp2_with (at_builtin;refine aM rfl _ _ rfl el_srow (aJ H.out.op ((aB.refl _))) rfl 1 _ rfl _ rfl (by decide) rfl (by simp[Value.oneCell']) (by omega) H.out.bp.grow ⟨Nat.le_refl _,H.out.bp.grow.size⟩ ?_;intro v5 w5 hO5 hg5 hgr5 hb5;obtain⟨A5,c5',rfl⟩:=aH hO5;have HO5:=Lh hO5;have GR5:=Lh hgr5;have HF5:Hid (fL w (.slice B rows.length d) (.slice A5 (rows.length+1) c5')):=(by rcases hb5 with e|e;exact .inl e;exact .inr ⟨_,e,Nat.le_succ _⟩);have bp5:=H.out.bp.by_ hgr5 (cA H.out.op) (fun e=>H.out.pp.1 e.symm);have bq5:=H.out.bq.by_ hgr5 (cA H.out.op) (fun e=>H.out.pp.2 e.symm);have EF:=Lh (H.out.fin GR5.out HO5.out HF5.out);have c5:=bp5.cell 0;have f5:=bp5.free 0;have c6:=(bq5.other (j:=0) (v:=.slice A5 (rows.length+1) c5') (fun e=>H.out.ne e.symm) bp5.2.1).cell 0;have f6:=(bq5.other (j:=0) (v:=.slice A5 (rows.length+1) c5') (fun e=>H.out.ne e.symm) bp5.2.1).free 0;clear hO5 hg5 hgr5 hb5 bp5 bq5 q0 f0 p0)
  refine bodyPost_ret (results_none rfl _ _ _) rfl (HR.out _ _ _ _ _ EF.out (by rw[List.length_append];exact Nat.le_refl _) ?_);rw[List.map_append];exact ER.out
end Go.Proofs.YtjalimkajcjapaaGreatDoor
