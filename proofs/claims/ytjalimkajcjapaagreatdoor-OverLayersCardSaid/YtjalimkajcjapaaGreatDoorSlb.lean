import Derived.Test.YtjalimkajcjapaaGreatDoorRLb
namespace Go.Proofs.YtjalimkajcjapaaGreatDoor
set_option maxRecDepth 100000
open Go.RowKit B
structure SlS (w:World) (S:Nat->Prop) (k:Nat) (W:World) (ba bb r0 r1:Nat) (a b c d:RV):Prop where
 gr:aB w W
 A:W.heap[ba]? =some (.cells a.cells.toArray 111 (0,0))
 B:W.heap[bb]? =some (.cells b.cells.toArray 111 (0,0))
 C:W.heap[r0]? =some (.cells c.cells.toArray 111 (0,0))
 D:W.heap[r1]? =some (.cells d.cells.toArray 111 (0,0))
 ra:a.rd W S k
 rb:b.rd W S k
structure SlN (w:World) (ba bb r0 r1:Nat):Prop where
 ab:ba≠bb
 a0:ba≠r0
 a1:ba≠r1
 b0:bb≠r0
 b1:bb≠r1
 r01:r0≠r1
 la:w.heap.size<=ba
 lb:w.heap.size<=bb
 l0:w.heap.size<=r0
 l1:w.heap.size<=r1
theorem gX {W:World}{b:Nat}{r:RV}(h:W.heap[b]? =some (.cells r.cells.toArray 111 (0,0))):eI W b:=⟨_,_,_,h,RV.noint _⟩
section
variable {w W W' : World} {S : Nat -> Prop} {k ba bb r0 r1 : Nat} {a b c d s : RV}
theorem SlS.tr (h:SlS w S k W ba bb r0 r1 a b c d)(hg:aB W W'):SlS w S k W' ba bb r0 r1 a b c d:=
 ⟨h.gr.tr hg,aC hg h.A,aC hg h.B,aC hg h.C,aC hg h.D,h.ra.gr hg,h.rb.gr hg⟩
theorem SlS.setA (h:SlS w S k W ba bb r0 r1 a b c d)(n:SlN w ba bb r0 r1)(hs:s.rd W S k):SlS w S k (W.setRow ba s.cells.toArray) ba bb r0 r1 s b c d:=
 ⟨h.gr.row n.la _,setRow_heap _ _ _ _ _ _ h.A,(setRow_other _ _ _ _ n.ab.symm).trans h.B,(setRow_other _ _ _ _ n.a0.symm).trans h.C,(setRow_other _ _ _ _ n.a1.symm).trans h.D,hs.row (gX h.A) _,h.rb.row (gX h.A) _⟩
theorem SlS.setB (h:SlS w S k W ba bb r0 r1 a b c d)(n:SlN w ba bb r0 r1)(hs:s.rd W S k):SlS w S k (W.setRow bb s.cells.toArray) ba bb r0 r1 a s c d:=
 ⟨h.gr.row n.lb _,(setRow_other _ _ _ _ n.ab).trans h.A,setRow_heap _ _ _ _ _ _ h.B,(setRow_other _ _ _ _ n.b0.symm).trans h.C,(setRow_other _ _ _ _ n.b1.symm).trans h.D,h.ra.row (gX h.B) _,hs.row (gX h.B) _⟩
theorem SlS.setC (h:SlS w S k W ba bb r0 r1 a b c d)(n:SlN w ba bb r0 r1):SlS w S k (W.setRow r0 a.cells.toArray) ba bb r0 r1 a b a d:=
 ⟨h.gr.row n.l0 _,(setRow_other _ _ _ _ n.a0).trans h.A,(setRow_other _ _ _ _ n.b0).trans h.B,setRow_heap _ _ _ _ _ _ h.C,(setRow_other _ _ _ _ n.r01.symm).trans h.D,h.ra.row (gX h.C) _,h.rb.row (gX h.C) _⟩
theorem SlS.setD (h:SlS w S k W ba bb r0 r1 a b c d)(n:SlN w ba bb r0 r1):SlS w S k (W.setRow r1 b.cells.toArray) ba bb r0 r1 a b c b:=
 ⟨h.gr.row n.l1 _,(setRow_other _ _ _ _ n.a1).trans h.A,(setRow_other _ _ _ _ n.b1).trans h.B,(setRow_other _ _ _ _ n.r01).trans h.C,setRow_heap _ _ _ _ _ _ h.D,h.ra.row (gX h.D) _,h.rb.row (gX h.D) _⟩
theorem SlS.exA (h:SlS w S k W ba bb r0 r1 a b c d){e:Rat}(he:e=a.q):∃ X:RV,SlS w S k W ba bb r0 r1 X b c d/\e=X.q:=⟨a,h,he⟩
theorem SlS.exB (h:SlS w S k W ba bb r0 r1 a b c d){e:Rat}(he:e=b.q):∃ Y:RV,SlS w S k W ba bb r0 r1 a Y c d/\e=Y.q:=⟨b,h,he⟩
end
set_option maxHeartbeats 16000000 in
theorem slab_q (a b:RV)(p q lo hi:Int)(k:Nat)(S:Nat->Prop)(w:World)(ha:a.rd w S k)(hb:b.rd w S k)(hk5:5<=k)(hk:k<=10000)(hp:I64 p)(hq:I64 q)(hlo:I64 lo)(hhi:I64 hi){R:Ending->World->Prop}
  (hR:∀ (a' b':RV) ok w',aB w w'->bN a.q b.q p q lo hi=(a'.q,b'.q,ok)->a'.rd w' (fun x=>S x∨w.heap.size<=x) k->b'.rd w' (fun x=>S x∨w.heap.size<=x) k->R (.returned (.tuple #[.agg a'.cells.toArray,.agg b'.cells.toArray,.bool ok])) w'):
  Calls Tryz.prog 90 #[.agg a.cells.toArray,.agg b.cells.toArray,.int .i64 p,.int .i64 q,.int .i64 lo,.int .i64 hi] w R:=by
 have HR:=Lh hR;clear hR;have HI:=Lh (And.intro hp (And.intro hq (And.intro hlo hhi)));have HK:=Lh (And.intro hk5 hk)
 obtain⟨wa,hwa⟩:∃ wa,wa=(((w.alloc (.cells a.cells.toArray 111)).alloc (.cells b.cells.toArray 111)).alloc (.cells bV.cells.toArray 111)).alloc (.cells bV.cells.toArray 111):=⟨_,rfl⟩
 have GA:aB w wa:=by subst hwa;exact((((aB.refl w).al _).al _).al _).al _
 have ST:Hid (SlS w (fun x=>S x∨w.heap.size<=x) k wa w.heap.size (w.heap.size+1) (w.heap.size+1+1) (w.heap.size+1+1+1) a b bV bV):=by
  refine⟨GA,?_,?_,?_,?_,(ha.into fun _ h=>.inl h).gr GA,(hb.into fun _ h=>.inl h).gr GA⟩
  ·subst hwa
   exact aR w _ _ ((((aB.refl _).al _).al _).al _)
  ·subst hwa
   have:=aR (w.alloc (.cells a.cells.toArray 111)) b.cells.toArray 111 (((aB.refl _).al (.cells bV.cells.toArray 111)).al (.cells bV.cells.toArray 111))
   rwa[World.size_alloc] at this
  ·subst hwa
   have:=aR ((w.alloc (.cells a.cells.toArray 111)).alloc (.cells b.cells.toArray 111)) bV.cells.toArray 111 ((aB.refl _).al (.cells bV.cells.toArray 111))
   rwa[World.size_alloc,World.size_alloc] at this
  ·subst hwa
   have:=aR (((w.alloc (.cells a.cells.toArray 111)).alloc (.cells b.cells.toArray 111)).alloc (.cells bV.cells.toArray 111)) bV.cells.toArray 111 (aB.refl _)
   rwa[World.size_alloc,World.size_alloc,World.size_alloc] at this
 have LW:Hid (w.heap.size<wa.heap.size/\w.heap.size+1<wa.heap.size):=by have:=lt_of_block ST.out.D;show _/\_;omega
 have NN:Hid (SlN w w.heap.size (w.heap.size+1) (w.heap.size+1+1) (w.heap.size+1+1+1)):=⟨by omega,by omega,by omega,by omega,by omega,by omega,by omega,by omega,by omega,by omega⟩
 clear ha hb hp hq hlo hhi hk5 hk GA
 by_cases hpq:p=q
 ·have HV:Hid (bN a.q b.q p q lo hi=(a.q,b.q,decide (lo<=p)&&decide (p<=hi))):=by
   show _=_;unfold bN;rw[if_pos hpq]
  have t1:(p==q)=true:=by rw[beq_iff_eq];exact hpq
  clear hpq HI HK
  by_cases h1:lo<=p
  ·have t2:decide (lo<=p)=true:=decide_eq_true h1
   rw[t2,Bool.true_and] at HV
   obtain⟨t3,ht3⟩:∃ t,decide (p<=hi)=t:=⟨_,rfl⟩
   rw[ht3] at HV;clear h1;go_enter Tryz.func90,Tryz.ntmps90
   go_wp2_with fail
   rw[show (((w.alloc (.cells a.cells.toArray 111)).alloc (.cells b.cells.toArray 111)).alloc (.cells #[.bool false,.slice none 0 0,.bool false,.slice none 0 0] 111)).alloc (.cells #[.bool false,.slice none 0 0,.bool false,.slice none 0 0] 111)=wa from hwa.symm];clear hwa;generalize w.heap.size+1+1+1=r1 at*;generalize w.heap.size+1+1=r0 at*;generalize w.heap.size+1=bb at*;generalize hba:w.heap.size=ba at*
   refine aE (fun W=>∃ c d,SlS w (fun x=>S x∨ba<=x) k W ba bb r0 r1 a b c d) (⟨_,_,ST.out.tr (aB.refl _).dr⟩) 12 [0,1,2,3,4,5,6,7,8,9,10,11] (by kernel_rfl) (by kernel_rfl) (by intro c a d v w h;cases d<;>exact h) ?_;have ST:=Lh (ST.out.tr (aB.refl _).dr);generalize wa.drew=wb at*;apply aD;exact rfl;exact rfl;(intro W hW;obtain⟨_,_,hs⟩:=hW;exact aP 111 _ rfl ba rfl 111 _ _ _ hs.A rfl Tryz.underlying111 (by kernel_rfl))
   try simp only[Act.put,sA,sZ,sS]
   apply aD;exact rfl;exact rfl;(intro W hW;obtain⟨_,_,hs⟩:=hW;exact aP 111 _ rfl bb rfl 111 _ _ _ hs.B rfl Tryz.underlying111 (by kernel_rfl))
   try simp only[Act.put,sA,sZ,sS]
   iterate 8 (apply aD;exact rfl;exact rfl;(intro W hW;(try clear hW);go_simp;with_reducible rfl);try simp only[Act.put,sA,sZ,sS])
   have S1:=ST.out.setC NN.out;apply aG;exact rfl;exact rfl;exact rfl;intro K hK;refine wp_store_row 111 _ _ rfl r0 a.cells.toArray rfl rfl 111 _ ST.out.C (by kernel_rfl) rfl (RV.one _) ?_;refine hK.out _ _ ⟨_,_,S1⟩ ?_;clear hK;simp only[Act.put];have S2:=Lh (S1.setD NN.out);apply aG;exact rfl;exact rfl;exact rfl;intro K hK;refine wp_store_row 111 _ _ rfl r1 b.cells.toArray rfl rfl 111 _ S1.D (by kernel_rfl) rfl (RV.one _) ?_;refine hK.out _ _ ⟨_,_,S2.out⟩ ?_;clear hK;simp only[Act.put];clear S1;refine aK ?_
   simp only[List.drop_succ_cons,List.drop_zero];go_wp2;refine bodyPost_ret (v:=.tuple #[.agg a.cells.toArray,.agg b.cells.toArray,.bool t3]) ?_ rfl (HR.out a b t3 _ S2.out.gr HV.out S2.out.ra S2.out.rb);exact cJ rfl _ _ r0 r1 _ _ _ _ _ _ _ _ rfl S2.out.C rfl S2.out.D rfl rfl rfl Tryz.underlying111 (by kernel_rfl) Tryz.underlying111 (by kernel_rfl)
  ·have t2:decide (lo<=p)=false:=decide_eq_false h1
   rw[t2,Bool.false_and] at HV;clear h1;go_enter Tryz.func90,Tryz.ntmps90
   go_wp2_with fail
   rw[show (((w.alloc (.cells a.cells.toArray 111)).alloc (.cells b.cells.toArray 111)).alloc (.cells #[.bool false,.slice none 0 0,.bool false,.slice none 0 0] 111)).alloc (.cells #[.bool false,.slice none 0 0,.bool false,.slice none 0 0] 111)=wa from hwa.symm];clear hwa;generalize w.heap.size+1+1+1=r1 at*;generalize w.heap.size+1+1=r0 at*;generalize w.heap.size+1=bb at*;generalize hba:w.heap.size=ba at*
   refine aE (fun W=>∃ c d,SlS w (fun x=>S x∨ba<=x) k W ba bb r0 r1 a b c d) (⟨_,_,ST.out.tr (aB.refl _).dr⟩) 12 [0,1,2,3,4,5,6,7,8,9,10,11] (by kernel_rfl) (by kernel_rfl) (by intro c a d v w h;cases d<;>exact h) ?_;have ST:=Lh (ST.out.tr (aB.refl _).dr);generalize wa.drew=wb at*;apply aD;exact rfl;exact rfl;(intro W hW;obtain⟨_,_,hs⟩:=hW;exact aP 111 _ rfl ba rfl 111 _ _ _ hs.A rfl Tryz.underlying111 (by kernel_rfl))
   try simp only[Act.put,sA,sZ,sS]
   apply aD;exact rfl;exact rfl;(intro W hW;obtain⟨_,_,hs⟩:=hW;exact aP 111 _ rfl bb rfl 111 _ _ _ hs.B rfl Tryz.underlying111 (by kernel_rfl))
   try simp only[Act.put,sA,sZ,sS]
   iterate 4 (apply aD;exact rfl;exact rfl;(intro W hW;(try clear hW);go_simp;with_reducible rfl);try simp only[Act.put,sA,sZ,sS])
   iterate 3 (apply bF;exact rfl;exact rfl;try simp only[Act.put,sA,sZ,sS])
   iterate 1 (apply aD;exact rfl;exact rfl;(intro W hW;(try clear hW);go_simp;with_reducible rfl);try simp only[Act.put,sA,sZ,sS])
   have S1:=ST.out.setC NN.out;apply aG;exact rfl;exact rfl;exact rfl;intro K hK;refine wp_store_row 111 _ _ rfl r0 a.cells.toArray rfl rfl 111 _ ST.out.C (by kernel_rfl) rfl (RV.one _) ?_;refine hK.out _ _ ⟨_,_,S1⟩ ?_;clear hK;simp only[Act.put];have S2:=Lh (S1.setD NN.out);apply aG;exact rfl;exact rfl;exact rfl;intro K hK;refine wp_store_row 111 _ _ rfl r1 b.cells.toArray rfl rfl 111 _ S1.D (by kernel_rfl) rfl (RV.one _) ?_;refine hK.out _ _ ⟨_,_,S2.out⟩ ?_;clear hK;simp only[Act.put];clear S1;refine aK ?_
   simp only[List.drop_succ_cons,List.drop_zero];go_wp2;refine bodyPost_ret (v:=.tuple #[.agg a.cells.toArray,.agg b.cells.toArray,.bool false]) ?_ rfl (HR.out a b false _ S2.out.gr HV.out S2.out.ra S2.out.rb);exact cJ rfl _ _ r0 r1 _ _ _ _ _ _ _ _ rfl S2.out.C rfl S2.out.D rfl rfl rfl Tryz.underlying111 (by kernel_rfl) Tryz.underlying111 (by kernel_rfl)
 ·have t1:(p==q)=false:=by rw[beq_eq_false_iff_ne];exact hpq
  have HPQ:=Lh hpq
  have HV:Hid (bN a.q b.q p q lo hi=(if a.q<cO p q lo hi then cO p q lo hi else a.q,if cN p q lo hi<b.q then cN p q lo hi else b.q,decide ((if a.q<cO p q lo hi then cO p q lo hi else a.q)<=(if cN p q lo hi<b.q then cN p q lo hi else b.q)))):=by
   show _=_;unfold bN;rw[if_neg hpq]
  clear hpq
  by_cases hlt:q<p
  case' pos=>
   have t2:decide (q<p)=true:=decide_eq_true hlt
   have HXY:Hid (cO p q lo hi=((hi-p:Int):Rat)/((q-p:Int):Rat)/\cN p q lo hi=((lo-p:Int):Rat)/((q-p:Int):Rat)):=by
    show _/\_;unfold cO cN;rw[if_pos hlt,if_pos hlt];exact⟨rfl,rfl⟩
   clear hlt
  case' neg=>
   have t2:decide (q<p)=false:=decide_eq_false hlt
   have HXY:Hid (cO p q lo hi=((lo-p:Int):Rat)/((q-p:Int):Rat)/\cN p q lo hi=((hi-p:Int):Rat)/((q-p:Int):Rat)):=by
    show _/\_;unfold cO cN;rw[if_neg hlt,if_neg hlt];exact⟨rfl,rfl⟩
   clear hlt
  all_goals
   go_enter Tryz.func90,Tryz.ntmps90
   go_wp2_with fail
   rw[show (((w.alloc (.cells a.cells.toArray 111)).alloc (.cells b.cells.toArray 111)).alloc (.cells #[.bool false,.slice none 0 0,.bool false,.slice none 0 0] 111)).alloc (.cells #[.bool false,.slice none 0 0,.bool false,.slice none 0 0] 111)=wa from hwa.symm];clear hwa;generalize w.heap.size+1+1+1=r1 at*;generalize w.heap.size+1+1=r0 at*;generalize w.heap.size+1=bb at*;generalize hba:w.heap.size=ba at*;go_at_call 111;refine way_any p q _ _ HI.out.1 HI.out.2.1 (by first|exact HI.out.2.2.2|exact HI.out.2.2.1) ?_;intro v1 w1 hg1 hv1
   have ST:=Lh (ST.out.tr hg1);have V1:=Lh hv1;have LW0:=LW;have LW:=Lh (And.intro (Nat.lt_of_lt_of_le LW.out.1 hg1.size) (Nat.lt_of_lt_of_le LW.out.2 hg1.size));clear hg1 hv1;go_wp2_with fail
   go_at_call 110;refine right_q _ _ _ 5 _ w1 V1.out (by have:=HPQ.out;omega) (by omega) ?_;intro rs w2 hg2 hqs hrs;have ST:=Lh (ST.out.tr hg2);have RS:Hid (rs.rd w2 (fun x=>S x∨ba<=x) k):=(hrs.into fun x hx=>.inr (by have:=LW0.out.1;omega)).up HK.out.1;have XQ:Hid (cO p q lo hi=rs.q):=(HXY.out.1).trans hqs.symm;have LW:=Lh (And.intro (Nat.lt_of_lt_of_le LW.out.1 hg2.size) (Nat.lt_of_lt_of_le LW.out.2 hg2.size));clear hg2 hqs hrs V1 LW0;go_wp2_with fail
   go_at_call 111;refine way_any p q _ _ HI.out.1 HI.out.2.1 (by first|exact HI.out.2.2.2|exact HI.out.2.2.1) ?_;intro v2 w3 hg3 hv2;have ST:=Lh (ST.out.tr hg3);have RS:=Lh (RS.out.gr hg3);have V2:=Lh hv2;clear hv2;go_wp2_with fail
   go_at_call 110;refine right_q _ _ _ 5 _ w3 V2.out (by have:=HPQ.out;omega) (by omega) ?_;intro rt w4 hg4 hqt hrt;have ST:=Lh (ST.out.tr hg4);have RS:=Lh (RS.out.gr hg4);have RT:Hid (rt.rd w4 (fun x=>S x∨ba<=x) k):=(hrt.into fun x hx=>.inr (by have:=LW.out.1;omega)).up HK.out.1;have YQ:Hid (cN p q lo hi=rt.q):=(HXY.out.2).trans hqt.symm;have LW:=Lh (And.intro (Nat.lt_of_lt_of_le LW.out.1 (Nat.le_trans hg3.size hg4.size)) (Nat.lt_of_lt_of_le LW.out.2 (Nat.le_trans hg3.size hg4.size)));clear hg3 hg4 hqt hrt V2 t1 t2
   have Z1:Hid (((w4.alloc (.cells bV.cells.toArray 111)).alloc (.cells bV.cells.toArray 111)).heap[w4.heap.size]? =some (.cells bV.cells.toArray 111 (0,0))):=aR w4 _ _ ((aB.refl _).al _)
   have Z2:Hid (((w4.alloc (.cells bV.cells.toArray 111)).alloc (.cells bV.cells.toArray 111)).heap[w4.heap.size+1]? =some (.cells bV.cells.toArray 111 (0,0))):=by
    have:=aR (w4.alloc (.cells bV.cells.toArray 111)) bV.cells.toArray 111 (aB.refl _)
    rwa[World.size_alloc] at this
   have G5:Hid (aB w4 ((w4.alloc (.cells bV.cells.toArray 111)).alloc (.cells bV.cells.toArray 111))):=((aB.refl _).al _).al _
   obtain⟨wz,hwz⟩:∃ wz,wz=(w4.alloc (.cells bV.cells.toArray 111)).alloc (.cells bV.cells.toArray 111):=⟨_,rfl⟩
   rw[<-hwz] at Z1 Z2 G5;have Z3:=Lh ((setRow_other _ _ _ rs.cells.toArray (show w4.heap.size+1≠w4.heap.size by omega)).trans Z2.out)
   go_upto_region 7 with (first|(rw[show ((w4.alloc (.cells #[.bool false,.slice none 0 0,.bool false,.slice none 0 0] 111)).alloc (.cells #[.bool false,.slice none 0 0,.bool false,.slice none 0 0] 111))=wz from hwz.symm];refine wpList_store_row rfl 111 _ _ rfl w4.heap.size rs.cells.toArray rfl rfl 111 _ Z1.out (by kernel_rfl) rfl (RV.one _) ?_)|(refine wpList_store_row rfl 111 _ _ rfl (w4.heap.size+1) rt.cells.toArray rfl rfl 111 _ Z3.out (by kernel_rfl) rfl (RV.one _) ?_))
   clear hwz;have G6:Hid (aB w4 ((wz.setRow w4.heap.size rs.cells.toArray).setRow (w4.heap.size+1) rt.cells.toArray)):=(G5.out.row (Nat.le_refl _) _).row (Nat.le_succ _) _;have FS:=Lh ((setRow_other _ _ _ rt.cells.toArray (show w4.heap.size≠w4.heap.size+1 by omega)).trans (setRow_heap _ _ _ rs.cells.toArray _ _ Z1.out));have FT:=Lh (setRow_heap _ _ _ rt.cells.toArray _ _ Z3.out);have ST:=Lh (ST.out.tr G6.out);have RS:=Lh (RS.out.gr G6.out);have RT:=Lh (RT.out.gr G6.out);have LA:Hid (ba<w4.heap.size/\bb<w4.heap.size):=LW.out
   clear Z1 Z2 Z3 G5 G6
   obtain⟨bs,hbs⟩:∃ bs,bs=w4.heap.size:=⟨_,rfl⟩
   obtain⟨bt,hbt⟩:∃ bt,bt=w4.heap.size+1:=⟨_,rfl⟩
   have NE:Hid (bs≠ba/\bt≠ba/\bt≠bb):=by have:=LA.out;show _/\_/\_;omega
   rw[<-hbt] at FS FT ST RS RT ⊢;rw[<-hbs] at FS FT ST RS RT ⊢;clear hbs hbt LA LW;generalize (wz.setRow bs rs.cells.toArray).setRow bt rt.cells.toArray=w5 at*;go_wp2_with (first|(refine wpList_load_row rfl 111 _ rfl bs rfl 111 _ _ _ FS.out Tryz.underlying111 rfl (by kernel_rfl) ?_)|(refine wpList_load_row rfl 111 _ rfl ba rfl 111 _ _ _ ST.out.A Tryz.underlying111 rfl (by kernel_rfl) ?_))
   go_at_call 93;refine jN rs a k k _ _ _ RS.out ST.out.ra HK.out.2 HK.out.2 ?_;intro w6 hg6;have ST:=Lh (ST.out.tr hg6);have FS:=Lh (aC hg6 FS.out);have FT:=Lh (aC hg6 FT.out);have RS:=Lh (RS.out.gr hg6);have RT:=Lh (RT.out.gr hg6);clear hg6;have C1:=Lh (uN rs.q a.q);generalize fR rs.q a.q=c1 at*
   by_cases h1:0<c1
   case' pos=>
    have t2:decide (0<c1)=true:=decide_eq_true h1;have E1:Hid ((if a.q<cO p q lo hi then cO p q lo hi else a.q)=rs.q):=by show _=_;rw[XQ.out,if_pos (C1.out.1 h1)]
    clear h1 C1;go_upto_region 9 with (first|(refine wpList_load_row rfl 111 _ rfl bs rfl 111 _ _ _ FS.out Tryz.underlying111 rfl (by kernel_rfl) ?_)|(refine wpList_store_row rfl 111 _ _ rfl ba rs.cells.toArray rfl rfl 111 _ ST.out.A (by kernel_rfl) rfl (RV.one _) ?_))
    have FT:=Lh ((setRow_other _ _ _ rs.cells.toArray NE.out.2.1).trans FT.out);have RT:=Lh (RT.out.row (gX ST.out.A) rs.cells.toArray);have ST:=Lh (ST.out.setA NN.out RS.out);generalize World.setRow _ ba rs.cells.toArray=w8 at*;clear t2 FS RS
   case' neg=>
    have t2:decide (0<c1)=false:=decide_eq_false h1;have E1:Hid ((if a.q<cO p q lo hi then cO p q lo hi else a.q)=a.q):=by show _=_;rw[XQ.out,if_neg (fun h=>h1 (C1.out.2 h))]
    clear h1 C1;go_upto_region 9 with fail
    clear t2 FS RS
   all_goals
    obtain⟨X,ST1,E1q⟩:=SlS.exA ST.out E1.out;have ST:=Lh ST1;have E1:=Lh E1q;clear ST1 E1q XQ;go_wp2_with (first|(refine wpList_load_row rfl 111 _ rfl bt rfl 111 _ _ _ FT.out Tryz.underlying111 rfl (by kernel_rfl) ?_)|(refine wpList_load_row rfl 111 _ rfl bb rfl 111 _ _ _ ST.out.B Tryz.underlying111 rfl (by kernel_rfl) ?_))
    go_at_call 93;refine jN rt b k k _ _ _ RT.out ST.out.rb HK.out.2 HK.out.2 ?_;intro w7 hg7;have ST:=Lh (ST.out.tr hg7);have FT:=Lh (aC hg7 FT.out);have RT:=Lh (RT.out.gr hg7);clear hg7;have C2:=Lh (cmpR_lt rt.q b.q);generalize fR rt.q b.q=c2 at*
    by_cases h2:c2<0
    case' pos=>
     have t3:decide (c2<0)=true:=decide_eq_true h2;have E2:Hid ((if cN p q lo hi<b.q then cN p q lo hi else b.q)=rt.q):=by show _=_;rw[YQ.out,if_pos (C2.out.1 h2)]
     clear h2 C2;go_upto_region 11 with (first|(refine wpList_load_row rfl 111 _ rfl bt rfl 111 _ _ _ FT.out Tryz.underlying111 rfl (by kernel_rfl) ?_)|(refine wpList_store_row rfl 111 _ _ rfl bb rt.cells.toArray rfl rfl 111 _ ST.out.B (by kernel_rfl) rfl (RV.one _) ?_))
     have ST:=Lh (ST.out.setB NN.out RT.out);generalize World.setRow _ bb rt.cells.toArray=w9 at*;clear t3
    case' neg=>
     have t3:decide (c2<0)=false:=decide_eq_false h2;have E2:Hid ((if cN p q lo hi<b.q then cN p q lo hi else b.q)=b.q):=by show _=_;rw[YQ.out,if_neg (fun h=>h2 (C2.out.2 h))]
     clear h2 C2;go_upto_region 11 with fail
     clear t3
    all_goals
     obtain⟨Y,ST1,E2q⟩:=SlS.exB ST.out E2.out;have ST:=Lh ST1;have E2:=Lh E2q;clear ST1 E2q FT RT YQ;go_upto_region 11 with fail
     refine aE (fun W=>∃ c d,SlS w (fun x=>S x∨ba<=x) k W ba bb r0 r1 X Y c d) (⟨_,_,ST.out.tr (aB.refl _).dr⟩) 8 [0,1,2,3,4,5,6,7] (by kernel_rfl) (by kernel_rfl) (by intro c a d v w h;cases d<;>exact h) ?_;have ST:=Lh (ST.out.tr (aB.refl _).dr);generalize World.drew _=wb at*;apply aD;exact rfl;exact rfl;(intro W hW;obtain⟨_,_,hs⟩:=hW;exact aP 111 _ rfl ba rfl 111 _ _ _ hs.A rfl Tryz.underlying111 (by kernel_rfl))
     try simp only[Act.put,sA,sZ,sS]
     apply aD;exact rfl;exact rfl;(intro W hW;obtain⟨_,_,hs⟩:=hW;exact aP 111 _ rfl bb rfl 111 _ _ _ hs.B rfl Tryz.underlying111 (by kernel_rfl))
     try simp only[Act.put,sA,sZ,sS]
     apply aD;exact rfl;exact rfl;(intro W hW;obtain⟨_,_,hs⟩:=hW;exact aP 111 _ rfl ba rfl 111 _ _ _ hs.A rfl Tryz.underlying111 (by kernel_rfl))
     try simp only[Act.put,sA,sZ,sS]
     apply aD;exact rfl;exact rfl;(intro W hW;obtain⟨_,_,hs⟩:=hW;exact aP 111 _ rfl bb rfl 111 _ _ _ hs.B rfl Tryz.underlying111 (by kernel_rfl))
     try simp only[Act.put,sA,sZ,sS]
     apply aG;exact rfl;exact rfl;exact rfl;intro K hK;go_simp;go_at_call 93;refine jN X Y k k _ _ _ ST.out.ra ST.out.rb HK.out.2 HK.out.2 ?_;intro w8 hg8;have ST:=Lh (ST.out.tr hg8);refine hK.out _ _ ⟨_,_,ST.out⟩ ?_;clear hK hg8
     try simp only[Act.put,sA,sZ,sS]
     obtain⟨ok,hok⟩:∃ ok,decide (fR X.q Y.q<=0)=ok:=⟨_,rfl⟩
     have EO:Hid (bN a.q b.q p q lo hi=(X.q,Y.q,ok)):=by
      show _=_;rw[HV.out,<-hok,decide_eq_decide.2 (cmpR_le _ _),E1.out,E2.out]
     generalize fR X.q Y.q=cv at*
     iterate 1 (apply aD;exact rfl;exact rfl;(intro W hW;(try clear hW);go_simp;with_reducible rfl);try simp only[Act.put,sA,sZ,sS])
     have S1:=ST.out.setC NN.out;apply aG;exact rfl;exact rfl;exact rfl;intro K hK;refine wp_store_row 111 _ _ rfl r0 X.cells.toArray rfl rfl 111 _ ST.out.C (by kernel_rfl) rfl (RV.one _) ?_;refine hK.out _ _ ⟨_,_,S1⟩ ?_;clear hK;simp only[Act.put];have S2:=Lh (S1.setD NN.out);apply aG;exact rfl;exact rfl;exact rfl;intro K hK;refine wp_store_row 111 _ _ rfl r1 Y.cells.toArray rfl rfl 111 _ S1.D (by kernel_rfl) rfl (RV.one _) ?_;refine hK.out _ _ ⟨_,_,S2.out⟩ ?_;clear hK;simp only[Act.put];clear S1;refine aK ?_
     simp only[List.drop_succ_cons,List.drop_zero];go_wp2;refine bodyPost_ret (v:=.tuple #[.agg X.cells.toArray,.agg Y.cells.toArray,.bool ok]) ?_ rfl (HR.out X Y ok _ S2.out.gr EO.out S2.out.ra S2.out.rb);exact cJ rfl _ _ r0 r1 _ _ _ _ _ _ _ _ rfl S2.out.C rfl S2.out.D rfl rfl rfl Tryz.underlying111 (by kernel_rfl) Tryz.underlying111 (by kernel_rfl)
end Go.Proofs.YtjalimkajcjapaaGreatDoor
