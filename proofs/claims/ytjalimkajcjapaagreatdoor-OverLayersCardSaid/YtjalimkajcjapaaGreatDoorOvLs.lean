import Derived.Test.YtjalimkajcjapaaGreatDoorRvL
import Derived.Test.YtjalimkajcjapaaGreatDoorRvGr
import Derived.Test.YtjalimkajcjapaaGreatDoorTMS
namespace Go.Proofs.YtjalimkajcjapaaGreatDoor
set_option maxRecDepth 100000
open Go.RowKit B
theorem rA (e:Int)(w:World){R:Ending->World->Prop}(hR:R (.returned (.int .i64 e)) w):Calls Tryz.prog 11 #[.int .i64 e] w R:=by
 have HR:=Lh hR;clear hR;go_enter Tryz.func11,Tryz.ntmps11
 go_wp2;exact HR.out
theorem ly_two {W:World}{S T:Nat->Prop}{x y:LyR}(hx:x.rd W S)(hy:y.rd W T):
  kV ((W.alloc (.cells x.cells.toArray 24)).alloc (.cells y.cells.toArray 24)) (fun _=>True) (.slice (some ⟨W.heap.size,0,none⟩) 1 1) [x]/\
  kV ((W.alloc (.cells x.cells.toArray 24)).alloc (.cells y.cells.toArray 24)) (fun _=>True) (.slice (some ⟨W.heap.size+1,0,none⟩) 1 1) [y]:=by
 refine⟨(lW hx (aB.refl W)).gr ((aB.refl _).al _),?_⟩;have:=lW (hy.gr ((aB.refl W).al (.cells x.cells.toArray 24))) (aB.refl _)
 rwa[World.size_alloc] at this
set_option maxHeartbeats 16000000 in
theorem overLayers_walk (x:LyR)(z:Zm)(e:Int)(S:Nat->Prop)(w:World)(hx:x.rd w S)(hok:x.ok)(hrch:Rch [x])(he:I64 e)(hT:kD w){R:Ending->World->Prop}
  (hR:∀ w',aB w w'->R (.returned (.bool true)) w'):
  Calls Tryz.prog 3 #[.agg x.cells.toArray,.agg z.cells.toArray,.int .i64 e] w R:=by
 have HR:=Lh hR;have MU:=Lh fun W (hg:aB w W) (R:Ending->World->Prop) h1 h2=>muchT_any _ [x] (fun _=>True) _ (lW hx hg) (fun y hy=>List.mem_singleton.1 hy▸hok) hrch (R:=R) h1 h2
 have OL:=Lh fun W (hg:aB w W) h1 h2 (R:Ending->World->Prop) h=>yU x z S W (hx.gr hg) hok (hT.gr hg) h1 h2 (R:=R) h
 have RL:=Lh fun W (hg:aB w W) h1 h2 (R:Ending->World->Prop) h=>yJ x z S W (hx.gr hg) hok (hT.gr hg) h1 h2 (R:=R) h
 have OG:=Lh fun W (hg:aB w W) h1 h2 (R:Ending->World->Prop) h=>ogrow_any x e S W (hx.gr hg) hok (hT.gr hg) he h1 h2 (R:=R) h
 have RG:=Lh fun W (hg:aB w W) h1 h2 (R:Ending->World->Prop) h=>rgrow_any x e S W (hx.gr hg) hok (hT.gr hg) he h1 h2 (R:=R) h
 obtain⟨_,X,cx,hv,-,-,-,-⟩:=hx.1;clear hR hx hok hrch hT he;obtain⟨nm,xe,fv,F⟩:=x;dsimp only at hv;subst hv;unfold LyR.cells at*;dsimp only at*
 obtain⟨wa,hwa⟩:∃ wa,wa=(w.alloc (.cells #[.string nm,.int .i64 xe,.slice X F.length cx] 24)).alloc (.cells z.cells.toArray 26):=⟨_,rfl⟩
 have GA:Hid (aB w wa):=by subst hwa;exact((aB.refl _).al _).al _
 have BX:Hid (wa.heap[w.heap.size]? =some (.cells #[.string nm,.int .i64 xe,.slice X F.length cx] 24 (0,0))):=by
  rw[hwa];exact aC ((aB.refl _).al _) (heap_alloc_new w _)
 have BZ:Hid (wa.heap[w.heap.size+1]? =some (.cells z.cells.toArray 26 (0,0))):=by
  have:=heap_alloc_new (w.alloc (.cells #[.string nm,.int .i64 xe,.slice X F.length cx] 24)) (.cells z.cells.toArray 26);rw[World.size_alloc] at this;rw[hwa];exact this
 go_enter Tryz.func3,Tryz.ntmps3
 go_upto_region 1 with fail
 rw[<-hwa];clear hwa;go_wp2_with (first|(refine wpList_load_row rfl 24 _ rfl w.heap.size rfl 24 _ _ _ BX.out Tryz.underlying24 rfl (by kernel_rfl) ?_)|(refine wpList_load_row rfl 26 _ rfl (w.heap.size+1) rfl 26 _ _ _ BZ.out Tryz.underlying26 rfl (by kernel_rfl) ?_))
 go_at_call 4;refine MU.out _ GA.out _ ?_ ?_
 ·intro w1 hg1
  have GA:=Lh ((GA.out.al _).tr hg1);clear hg1 MU OL RL OG RG BX BZ;go_wp2_with fail
  go_at_call 5;refine qI _ ?_;intro w9 hg9;have FIN:=Lh (HR.out _ ((GA.out).tr hg9));clear hg9 HR;go_wp2;exact FIN.out
 intro sm w1 hg1;have hg1:=((aB.refl wa).al (.cells #[.string nm,.int .i64 xe,.slice X F.length cx] 24)).tr hg1;have BX:=Lh (aC hg1 BX.out);have BZ:=Lh (aC hg1 BZ.out);have GA:=Lh (GA.out.tr hg1);have SM:=sm.2 _ (List.mem_singleton.2 rfl);have HN:F.length<=300:=by have:=SM.2.1;dsimp only at this;omega
 have HL:∀ f∈F,(f.A.length<=400/\∀ r∈f.A,r.l.length<=400)/\f.B.length<=1000:=fun f hf=>by
  obtain⟨⟨s1,s2⟩,s3,-⟩:=SM.2.2 f hf;exact⟨⟨by omega,fun r hr=>by have:=s2 r hr;omega⟩,by omega⟩
 have OL:=Lh fun W (hg:aB w W)=>OL.out W hg HN HL
 have RL:=Lh fun W (hg:aB w W)=>RL.out W hg HN HL
 have OG:=Lh fun W (hg:aB w W)=>OG.out W hg HN HL
 have RG:=Lh fun W (hg:aB w W)=>RG.out W hg HN HL
 clear hg1 MU sm SM HN HL;go_wp2_with (first|(refine wpList_load_row rfl 24 _ rfl w.heap.size rfl 24 _ _ _ BX.out Tryz.underlying24 rfl (by kernel_rfl) ?_)|(refine wpList_load_row rfl 26 _ rfl (w.heap.size+1) rfl 26 _ _ _ BZ.out Tryz.underlying26 rfl (by kernel_rfl) ?_))
 go_at_call 6;refine OL.out _ GA.out _ ?_;intro y c1 w4 h1 hr hg4;obtain⟨_,A1,k1,hv,-,-,-,-⟩:=id hr.1;obtain⟨n1,e1,v1,F1⟩:=y;dsimp only at hv;subst hv;have E1:=Lh h1;have R1:=Lh hr
 try unfold LyR.cells
 try dsimp only
 clear h1 hr;have BX:=Lh (aC hg4 BX.out);have BZ:=Lh (aC hg4 BZ.out);have GA:=Lh (GA.out.tr hg4)
 skip
 clear hg4;go_upto_region 4 with fail
 have GL:Hid (aB w4 (w4.alloc (.cells #[.string n1,.int .i64 e1,.slice A1 F1.length k1] 24))):=(aB.refl _).al _;have B1:Hid ((w4.alloc (.cells #[.string n1,.int .i64 e1,.slice A1 F1.length k1] 24)).heap[w4.heap.size]? =some (.cells #[.string n1,.int .i64 e1,.slice A1 F1.length k1] 24 (0,0))):=heap_alloc_new _ _;have R1:=Lh (R1.out.gr GL.out);have BX:=Lh (aC GL.out BX.out);have BZ:=Lh (aC GL.out BZ.out);have GA:=Lh (GA.out.tr GL.out)
 skip
 generalize w4.alloc (.cells #[.string n1,.int .i64 e1,.slice A1 F1.length k1] 24)=w5 at*;generalize w4.heap.size=b1 at*;clear GL;clear OL;go_wp2_with (first|(refine wpList_load_row rfl 24 _ rfl w.heap.size rfl 24 _ _ _ BX.out Tryz.underlying24 rfl (by kernel_rfl) ?_)|(refine wpList_load_row rfl 26 _ rfl (w.heap.size+1) rfl 26 _ _ _ BZ.out Tryz.underlying26 rfl (by kernel_rfl) ?_))
 go_at_call 7;refine RL.out _ GA.out _ ?_;intro y c2 w4 h2 hr hg4;obtain⟨_,A2,k2,hv,-,-,-,-⟩:=id hr.1;obtain⟨n2,e2,v2,F2⟩:=y;dsimp only at hv;subst hv;have E2:=Lh h2;have R2:=Lh hr
 try unfold LyR.cells
 try dsimp only
 clear h2 hr;have BX:=Lh (aC hg4 BX.out);have BZ:=Lh (aC hg4 BZ.out);have GA:=Lh (GA.out.tr hg4)
 (have B1:=Lh (aC hg4 B1.out);have R1:=Lh (R1.out.gr hg4))
 clear hg4;go_upto_region 5 with fail
 have GL:Hid (aB w4 (w4.alloc (.cells #[.string n2,.int .i64 e2,.slice A2 F2.length k2] 24))):=(aB.refl _).al _;have B2:Hid ((w4.alloc (.cells #[.string n2,.int .i64 e2,.slice A2 F2.length k2] 24)).heap[w4.heap.size]? =some (.cells #[.string n2,.int .i64 e2,.slice A2 F2.length k2] 24 (0,0))):=heap_alloc_new _ _;have R2:=Lh (R2.out.gr GL.out);have BX:=Lh (aC GL.out BX.out);have BZ:=Lh (aC GL.out BZ.out);have GA:=Lh (GA.out.tr GL.out)
 (have B1:=Lh (aC GL.out B1.out);have R1:=Lh (R1.out.gr GL.out))
 generalize w4.alloc (.cells #[.string n2,.int .i64 e2,.slice A2 F2.length k2] 24)=w5 at*;generalize w4.heap.size=b2 at*;clear GL;clear RL;go_wp2_with (first|(refine wpList_load_row rfl 24 _ rfl w.heap.size rfl 24 _ _ _ BX.out Tryz.underlying24 rfl (by kernel_rfl) ?_)|(refine wpList_load_row rfl 26 _ rfl (w.heap.size+1) rfl 26 _ _ _ BZ.out Tryz.underlying26 rfl (by kernel_rfl) ?_))
 go_at_call 8;refine OG.out _ GA.out _ ?_;intro y c3 w4 h3 hr hg4;obtain⟨_,A3,k3,hv,-,-,-,-⟩:=id hr.1;obtain⟨n3,e3,v3,F3⟩:=y;dsimp only at hv;subst hv;have E3:=Lh h3;have R3:=Lh hr
 try unfold LyR.cells
 try dsimp only
 clear h3 hr;have BX:=Lh (aC hg4 BX.out);have BZ:=Lh (aC hg4 BZ.out);have GA:=Lh (GA.out.tr hg4)
 (have B1:=Lh (aC hg4 B1.out);have R1:=Lh (R1.out.gr hg4);have B2:=Lh (aC hg4 B2.out);have R2:=Lh (R2.out.gr hg4))
 clear hg4;go_upto_region 6 with fail
 have GL:Hid (aB w4 (w4.alloc (.cells #[.string n3,.int .i64 e3,.slice A3 F3.length k3] 24))):=(aB.refl _).al _;have B3:Hid ((w4.alloc (.cells #[.string n3,.int .i64 e3,.slice A3 F3.length k3] 24)).heap[w4.heap.size]? =some (.cells #[.string n3,.int .i64 e3,.slice A3 F3.length k3] 24 (0,0))):=heap_alloc_new _ _;have R3:=Lh (R3.out.gr GL.out);have BX:=Lh (aC GL.out BX.out);have BZ:=Lh (aC GL.out BZ.out);have GA:=Lh (GA.out.tr GL.out)
 (have B1:=Lh (aC GL.out B1.out);have R1:=Lh (R1.out.gr GL.out);have B2:=Lh (aC GL.out B2.out);have R2:=Lh (R2.out.gr GL.out))
 generalize w4.alloc (.cells #[.string n3,.int .i64 e3,.slice A3 F3.length k3] 24)=w5 at*;generalize w4.heap.size=b3 at*;clear GL;clear OG;go_wp2_with (first|(refine wpList_load_row rfl 24 _ rfl w.heap.size rfl 24 _ _ _ BX.out Tryz.underlying24 rfl (by kernel_rfl) ?_)|(refine wpList_load_row rfl 26 _ rfl (w.heap.size+1) rfl 26 _ _ _ BZ.out Tryz.underlying26 rfl (by kernel_rfl) ?_))
 go_at_call 9;refine RG.out _ GA.out _ ?_;intro y c4 w4 h4 hr hg4;obtain⟨_,A4,k4,hv,-,-,-,-⟩:=id hr.1;obtain⟨n4,e4,v4,F4⟩:=y;dsimp only at hv;subst hv;have E4:=Lh h4;have R4:=Lh hr
 try unfold LyR.cells
 try dsimp only
 clear h4 hr;have BX:=Lh (aC hg4 BX.out);have BZ:=Lh (aC hg4 BZ.out);have GA:=Lh (GA.out.tr hg4)
 (have B1:=Lh (aC hg4 B1.out);have R1:=Lh (R1.out.gr hg4);have B2:=Lh (aC hg4 B2.out);have R2:=Lh (R2.out.gr hg4);have B3:=Lh (aC hg4 B3.out);have R3:=Lh (R3.out.gr hg4))
 clear hg4;go_upto_region 7 with fail
 have GL:Hid (aB w4 (w4.alloc (.cells #[.string n4,.int .i64 e4,.slice A4 F4.length k4] 24))):=(aB.refl _).al _;have B4:Hid ((w4.alloc (.cells #[.string n4,.int .i64 e4,.slice A4 F4.length k4] 24)).heap[w4.heap.size]? =some (.cells #[.string n4,.int .i64 e4,.slice A4 F4.length k4] 24 (0,0))):=heap_alloc_new _ _;have R4:=Lh (R4.out.gr GL.out);have BX:=Lh (aC GL.out BX.out);have BZ:=Lh (aC GL.out BZ.out);have GA:=Lh (GA.out.tr GL.out)
 (have B1:=Lh (aC GL.out B1.out);have R1:=Lh (R1.out.gr GL.out);have B2:=Lh (aC GL.out B2.out);have R2:=Lh (R2.out.gr GL.out);have B3:=Lh (aC GL.out B3.out);have R3:=Lh (R3.out.gr GL.out))
 generalize w4.alloc (.cells #[.string n4,.int .i64 e4,.slice A4 F4.length k4] 24)=w5 at*;generalize w4.heap.size=b4 at*;clear GL;clear RG BX BZ;have P12:=E1.out.trans E2.out.symm;have P34:=E3.out.trans E4.out.symm;injection P12 with p12 q12
 injection P34 with p34 q34
 subst q12 q34;have P12:=Lh p12;have P34:=Lh p34;clear E1 E2 E3 E4 p12 p34;go_wp2_with (first|(refine wpList_load_row rfl 24 _ rfl b1 rfl 24 _ _ _ B1.out Tryz.underlying24 rfl (by kernel_rfl) ?_)|(refine wpList_load_row rfl 24 _ rfl b2 rfl 24 _ _ _ (aC ((aB.refl _).al _) B2.out) Tryz.underlying24 rfl (by kernel_rfl) ?_))
 go_at_call 10;have L12:=ly_two R1.out R2.out;refine pV _ _ [⟨n1,e1,.slice A1 F1.length k1,F1⟩] [⟨n2,e2,.slice A2 F2.length k2,F2⟩] _ _ _ L12.1 L12.2 ?_;intro c w9 hc hg9;obtain rfl:c=true:=hc.2 (by rw[List.map_singleton,List.map_singleton,P12.out]);have hS:=(((aB.refl w5).al (.cells #[.string n1,.int .i64 e1,.slice A1 F1.length k1] 24)).al (.cells #[.string n2,.int .i64 e2,.slice A2 F2.length k2] 24)).tr hg9;have GA:=Lh (GA.out.tr hS);have B3:=Lh (aC hS B3.out);have B4:=Lh (aC hS B4.out)
 have R3:=Lh (R3.out.gr hS);have R4:=Lh (R4.out.gr hS);clear hc hg9 hS L12 P12 R1 R2 B1 B2;have G3:aB w9 (w9.alloc (.cells #[.string n3,.int .i64 e3,.slice A3 F3.length k3] 24)):=(aB.refl _).al _;have y30:=cell_of_row w9 b3 0 _ _ _ B3.out;have y31:=cell_of_row w9 b3 1 _ _ _ B3.out;have y32:=cell_of_row w9 b3 2 _ _ _ B3.out;have y40:=cell_of_row _ b4 0 _ _ _ (aC G3 B4.out);have y41:=cell_of_row _ b4 1 _ _ _ (aC G3 B4.out);have y42:=cell_of_row _ b4 2 _ _ _ (aC G3 B4.out);clear G3
 go_wp2_with (go_at_call 11;refine rA _ _ ?_)
 go_at_call 10;clear y30 y31 y32 y40 y41 y42;have L34:=ly_two R3.out R4.out;refine pV _ _ [⟨n3,e3,.slice A3 F3.length k3,F3⟩] [⟨n4,e4,.slice A4 F4.length k4,F4⟩] _ _ _ L34.1 L34.2 ?_;intro c wf hc hg9;obtain rfl:c=true:=hc.2 (by rw[List.map_singleton,List.map_singleton,P34.out]);have GA:=Lh (GA.out.tr ((((aB.refl w9).al (.cells #[.string n3,.int .i64 e3,.slice A3 F3.length k3] 24)).al (.cells #[.string n4,.int .i64 e4,.slice A4 F4.length k4] 24)).tr hg9));clear hc hg9 L34 P34 R3 R4 B3 B4;go_wp2_with (go_at_call 11;refine rA _ _ ?_)
 go_at_call 5;refine qI _ ?_;intro wl hgl;have FIN:=Lh (HR.out _ (GA.out.tr hgl));clear hgl HR;go_wp2;exact FIN.out
end Go.Proofs.YtjalimkajcjapaaGreatDoor
