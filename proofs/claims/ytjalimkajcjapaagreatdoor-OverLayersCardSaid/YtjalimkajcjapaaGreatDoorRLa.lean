import Derived.Test.YtjalimkajcjapaaGreatDoorFracW
import Derived.Deep.Cut
namespace Go.Proofs.YtjalimkajcjapaaGreatDoor
set_option maxRecDepth 100000
open Go.RowKit Go.Lib B
def eI (w:World)(B:Nat):Prop:=∃ cs t fr,w.heap[B]? =some (.cells cs t fr)/\∀ (j:Nat) k n,cs[j]? ≠some (.int k n)
theorem eI.set {w:World}{B:Nat}(h:eI w B)(C j:Nat){u:Value}(hu:∀ k n,u≠.int k n):eI (w.setCell ⟨C,j,none⟩ u) B:=by
 obtain⟨cs,t,fr,h1,h2⟩:=h
 by_cases hc:C=B
 ·subst hc
  refine⟨cs.setIfInBounds j u,t,fr,by simp[World.setCell,Array.getElem?_modify,h1],fun i k n=>?_⟩;rw[Array.getElem?_setIfInBounds]
  split
  ·split
   ·intro e;exact hu k n (Option.some.inj e)
   ·intro e;cases e
  ·exact h2 i k n
 ·exact⟨cs,t,fr,by simp[World.setCell,Array.getElem?_modify,hc,h1],h2⟩
theorem Rd.away {w:World}{S:Nat->Prop}{m:Value}{l:List Nat}{B:Nat}(h:Rd w S 1 m l.length (W64 l))(hB:eI w B):Rd w (fun b=>S b/\b≠B) 1 m l.length (W64 l):=by
 obtain⟨hl,A,c,hv,h1,h2,h3,h4⟩:=h;refine⟨hl,A,c,hv,h1,h2,h3,fun hn=>?_⟩;obtain⟨b,o,hA,hS,hc⟩:=h4 hn;refine⟨b,o,hA,⟨hS,?_⟩,hc⟩;rintro rfl;obtain⟨cs,t,fr,k1,k2⟩:=hB;have e:=hc 0 _ (fZ l 0 hn);rw[cell_of_row _ _ _ _ _ _ k1] at e;exact k2 _ _ _ e
theorem cL.away {w:World}{S:Nat->Prop}{v:Value}{z:Int}{k B:Nat}(h:cL w S v z k)(hB:eI w B):cL w (fun b=>S b/\b≠B) v z k:=by
 obtain⟨h1,m,h2,h3⟩:=h;exact⟨h1,m,h2,h3.away hB⟩
theorem cK.away {w:World}{S:Nat->Prop}{v:Value}{n d:Int}{k j B:Nat}(h:cK w S v n d k j)(hB:eI w B):cK w (fun b=>S b/\b≠B) v n d k j:=by
 obtain⟨p,A,x,c,p',A',x',c',h1,h2,h3⟩:=h;exact⟨p,A,x,c,p',A',x',c',h1,h2.away hB,h3.away hB⟩
theorem cK.put {w:World}{S:Nat->Prop}{v:Value}{n d:Int}{k j B i:Nat}(h:cK w S v n d k j)(hB:eI w B)(u:Value):cK (w.setCell ⟨B,i,none⟩ u) S v n d k j:=
 ((h.away hB).set (fun _ hb=>hb.2) u).into fun _ hb=>hb.1
theorem RV.rd.put {r:RV}{w:World}{S:Nat->Prop}{k B i:Nat}(h:r.rd w S k)(hB:eI w B)(u:Value):r.rd (w.setCell ⟨B,i,none⟩ u) S k:=by
 obtain⟨n,d,h1,h2,h3⟩:=h;exact⟨n,d,h1,h2,h3.put hB u⟩
theorem gY (p:Bool)(A:Option Addr)(x c:Nat)(p':Bool)(A':Option Addr)(x' c':Nat):∀ (j:Nat) k n,(#[Value.bool p,.slice A x c,.bool p',.slice A' x' c']:Array Value)[j]? ≠some (.int k n):=by
 intro j k n h;rcases j with _|_|_|_|j<;>simp at h
theorem tJ {r:RV}{W:World}{S:Nat->Prop}{k B:Nat}(h:r.rd W S k)(hB:eI W B)(a:Bool)(b:Value)(c:Bool)(d:Value)(hb:∀ k n,b≠.int k n)(_hd:∀ k n,d≠.int k n):r.rd (st4 W B (.bool a) b (.bool c) d) S k:=by
 unfold st4;have n1:∀ (x:Bool) k n,Value.bool x≠.int k n:=fun _ _ _ e=>by cases e
 have b1:=hB.set B 0 (n1 a);have b2:=b1.set B 1 hb;have b3:=b2.set B 2 (n1 c);exact(((h.put hB _).put b1 _).put b2 _).put b3 _
theorem eI.st4 {W:World}{B:Nat}(h:eI W B)(C:Nat)(a:Bool)(b:Value)(c:Bool)(d:Value)(hb:∀ k n,b≠.int k n)(hd:∀ k n,d≠.int k n):eI (st4 W C (.bool a) b (.bool c) d) B:=by
 have n1:∀ (x:Bool) k n,Value.bool x≠.int k n:=fun _ _ _ e=>by cases e
 exact(((h.set C 0 (n1 a)).set C 1 hb).set C 2 (n1 c)).set C 3 hd
theorem cK.st4n {W:World}{S:Nat->Prop}{v:Value}{n d:Int}{k j B:Nat}(h:cK W S v n d k j)(hB:eI W B)(a:Bool)(b:Value)(c:Bool)(e:Value)(hb:∀ k n,b≠.int k n):cK (st4 W B (.bool a) b (.bool c) e) S v n d k j:=by
 unfold Go.Proofs.YtjalimkajcjapaaGreatDoor.st4;have n1:∀ (x:Bool) k n,Value.bool x≠.int k n:=fun _ _ _ e=>by cases e
 have b1:=hB.set B 0 (n1 a);have b2:=b1.set B 1 hb;have b3:=b2.set B 2 (n1 c);exact(((h.put hB _).put b1 _).put b2 _).put b3 _
theorem bB (A:Option Addr)(n c:Nat):∀ k m,Value.slice A n c≠.int k m:=fun _ _ e=>by cases e
set_option maxHeartbeats 3000000 in
theorem right_q (n d:Int)(v:Value)(k:Nat)(S:Nat->Prop)(w:World)(h:cK w S v n d k k)(hd:d≠0)(hk:k<=10000){R:Ending->World->Prop}
  (hR:∀ (r:RV) w',aB w w'->r.q=(n:Rat)/(d:Rat)->r.rd w' S k->R (.returned (.agg r.cells.toArray)) w'):
  Calls Tryz.prog 110 #[v] w R:=by
 have HR1:∀ v w',aB w w'->cK w' S v (if d<0 then -n else n) (if d<0 then -d else d) k k->R (.returned v) w':=by
  intro v w' hg hv;obtain⟨r,rfl,hq,hr⟩:=hv.rv (by split<;>omega) (k':=k) (Nat.le_refl _) (Nat.le_refl _);refine hR r w' hg ?_ hr;rw[hq];have:(d:Rat)≠0:=by exact_mod_cast hd
  split
  ·push_cast;grind
  ·rfl
 have HR:=Lh HR1;clear hR HR1;obtain⟨p,A,x,c,p',A',x',c',rfl,ha1,ha2⟩:=h;have HA1:=Lh ha1;have HA2:=Lh ha2;clear ha1 ha2
 obtain⟨wa,hwa⟩:∃ wa,wa=(w.alloc (.cells #[.bool p,.slice A x c,.bool p',.slice A' x' c'] 111)).alloc (.cells #[.bool false,.slice none 0 0,.bool false,.slice none 0 0] 111):=⟨_,rfl⟩
 have K0:Hid (∀ W,aB wa W->W.heap[w.heap.size]? =some (.cells #[.bool p,.slice A x c,.bool p',.slice A' x' c'] 111 (0,0))):=fun W h=>by
  subst hwa;exact aR w _ _ (((aB.refl _).al _).tr h)
 have K1:Hid (∀ W,aB wa W->W.heap[w.heap.size+1]? =some (.cells #[.bool false,.slice none 0 0,.bool false,.slice none 0 0] 111 (0,0))):=fun W h=>by
  subst hwa;have:=aR _ _ _ h
  rwa[World.size_alloc] at this
 have GA:Hid (aB w wa):=by subst hwa;exact((aB.refl w).al _).al _
 have z0:=cell_of_row _ w.heap.size 0 _ _ (0,0) (K0.out _ (aB.refl _));have z1:=cell_of_row _ w.heap.size 1 _ _ (0,0) (K0.out _ (aB.refl _));have z2:=cell_of_row _ w.heap.size 2 _ _ (0,0) (K0.out _ (aB.refl _));have z3:=cell_of_row _ w.heap.size 3 _ _ (0,0) (K0.out _ (aB.refl _))
 obtain⟨bd,hbd⟩:∃ b,decide (d<0)=b:=⟨_,rfl⟩
 have HBD:=Lh hbd;have t1:=hbd;clear hbd;go_enter Tryz.func110,Tryz.ntmps110
 go_wp2_with fail
 rw[<-hwa];clear hwa;go_wp2_with fail
 go_at_call 130;refine pR d k _ _ wa (HA2.out.gr GA.out) (by omega) ?_;intro w1 hg1;have G1:=Lh hg1;clear hg1 z0 z1 z2 z3;have SZ1:=Lh (show w.heap.size+1<w1.heap.size from lt_of_block (K1.out _ G1.out))
 cases bd with
 |true=>
  have e1:d<0:=of_decide_eq_true HBD.out;rw[if_pos e1,if_pos e1] at HR;clear e1;go_wp2_with fail
  refine aE (aB wa) (G1.out.dr) 5 [0,1,3,4,2] (by kernel_rfl) (by kernel_rfl) (by intro c a d v w h;cases d<;>exact h) ?_
  iterate 4 (apply aD;exact rfl;exact rfl;(intro W hW;have z0:=cell_of_row _ w.heap.size 0 _ _ (0,0) (K0.out _ hW);have z1:=cell_of_row _ w.heap.size 1 _ _ (0,0) (K0.out _ hW);have z2:=cell_of_row _ w.heap.size 2 _ _ (0,0) (K0.out _ hW);have z3:=cell_of_row _ w.heap.size 3 _ _ (0,0) (K0.out _ hW);(try clear hW);go_simp;with_reducible rfl);try simp only[Act.put,sA,sZ,sS])
  have HL:Hid (w.heap.size+1<w1.drew.heap.size):=SZ1.out;apply aG;exact rfl;exact rfl;exact rfl;intro K hK;go_simp;go_at_call 120;refine jP n k _ _ _ (HA1.out.gr (GA.out.tr G1.out.dr)) (by omega) ?_;intro r2 w2 hg2 hr2;obtain⟨p2,A2,m2,c2,rfl⟩:=hr2.parts;have G2:=Lh (G1.out.dr.tr hg2);have R2:=Lh hr2;refine hK.out _ _ G2.out ?_;clear hK hg2 hr2
  try simp only[Act.put,sA,sZ,sS]
  refine aK ?_;simp only[List.drop_succ_cons,List.drop_zero];go_wp2_with fail
  go_at_call 120;refine jP d k _ _ _ (HA2.out.gr (GA.out.tr G2.out)) (by omega) ?_;intro r3 w3 hg3 hr3;obtain⟨p3,A3,m3,c3,rfl⟩:=hr3.parts;have G3:=Lh (G2.out.tr hg3);have R2:=Lh (R2.out.gr hg3);have R3:=Lh hr3;clear hg3 hr3;have hb:=K1.out _ G3.out
  have BN:Hid (eI w3 (w.heap.size+1)):=⟨_,_,_,hb,gY _ _ _ _ _ _ _ _⟩
  have xc0:=cell_of_row _ (w.heap.size+1) 0 _ _ (0,0) hb;have xf0:=frozen_of_row _ (w.heap.size+1) 0 _ _ hb;have xb1:=aF hb 0 (.bool p2);have xc1:=cell_of_row _ (w.heap.size+1) 1 _ _ (0,0) xb1;have xf1:=frozen_of_row _ (w.heap.size+1) 1 _ _ xb1;have xb2:=aF xb1 1 (.slice A2 m2 c2);have xc2:=cell_of_row _ (w.heap.size+1) 2 _ _ (0,0) xb2;have xf2:=frozen_of_row _ (w.heap.size+1) 2 _ _ xb2;have xb3:=aF xb2 2 (.bool p3);have xc3:=cell_of_row _ (w.heap.size+1) 3 _ _ (0,0) xb3;have xf3:=frozen_of_row _ (w.heap.size+1) 3 _ _ xb3
  have xb4:=aF xb3 3 (.slice A3 m3 c3);have xr0:=cell_of_row _ (w.heap.size+1) 0 _ _ (0,0) xb4;have xr1:=cell_of_row _ (w.heap.size+1) 1 _ _ (0,0) xb4;have xr2:=cell_of_row _ (w.heap.size+1) 2 _ _ (0,0) xb4;have xr3:=cell_of_row _ (w.heap.size+1) 3 _ _ (0,0) xb4;simp only[sA,sZ,sS] at xc0 xc1 xc2 xc3 xr0 xr1 xr2 xr3;clear xb1 xb2 xb3 xb4;go_wp2
  refine bodyPost_ret (v:=.agg #[.bool p2,.slice A2 m2 c2,.bool p3,.slice A3 m3 c3]) (by simp[results,Tryz.f110,go_sem,xr0,xr1,xr2,xr3]) rfl (HR.out _ _ ?_ ?_)
  ·exact(GA.out.tr G3.out).st4 (by omega) _ _ _ _
  ·exact cK.st4n (⟨_,_,_,_,_,_,_,_,rfl,R2.out.into fun b hb=>hb.1,R3.out.into fun b hb=>hb.1⟩) BN.out _ _ _ _ (bB _ _ _)
 |false=>
  have e1:¬ d<0:=of_decide_eq_false HBD.out;rw[if_neg e1,if_neg e1] at HR;clear e1;have z0:=cell_of_row _ w.heap.size 0 _ _ (0,0) (K0.out _ G1.out);have z1:=cell_of_row _ w.heap.size 1 _ _ (0,0) (K0.out _ G1.out);have z2:=cell_of_row _ w.heap.size 2 _ _ (0,0) (K0.out _ G1.out);have z3:=cell_of_row _ w.heap.size 3 _ _ (0,0) (K0.out _ G1.out);have hb:=K1.out _ G1.out
  have BN:Hid (eI w1 (w.heap.size+1)):=⟨_,_,_,hb,gY _ _ _ _ _ _ _ _⟩
  have xc0:=cell_of_row _ (w.heap.size+1) 0 _ _ (0,0) hb;have xf0:=frozen_of_row _ (w.heap.size+1) 0 _ _ hb;have xb1:=aF hb 0 (.bool p);have xc1:=cell_of_row _ (w.heap.size+1) 1 _ _ (0,0) xb1;have xf1:=frozen_of_row _ (w.heap.size+1) 1 _ _ xb1;have xb2:=aF xb1 1 (.slice A x c);have xc2:=cell_of_row _ (w.heap.size+1) 2 _ _ (0,0) xb2;have xf2:=frozen_of_row _ (w.heap.size+1) 2 _ _ xb2;have xb3:=aF xb2 2 (.bool p');have xc3:=cell_of_row _ (w.heap.size+1) 3 _ _ (0,0) xb3;have xf3:=frozen_of_row _ (w.heap.size+1) 3 _ _ xb3
  have xb4:=aF xb3 3 (.slice A' x' c');have xr0:=cell_of_row _ (w.heap.size+1) 0 _ _ (0,0) xb4;have xr1:=cell_of_row _ (w.heap.size+1) 1 _ _ (0,0) xb4;have xr2:=cell_of_row _ (w.heap.size+1) 2 _ _ (0,0) xb4;have xr3:=cell_of_row _ (w.heap.size+1) 3 _ _ (0,0) xb4;simp only[sA,sZ,sS] at xc0 xc1 xc2 xc3 xr0 xr1 xr2 xr3;clear xb1 xb2 xb3 xb4;go_wp2
  refine bodyPost_ret (v:=.agg #[.bool p,.slice A x c,.bool p',.slice A' x' c']) (by simp[results,Tryz.f110,go_sem,xr0,xr1,xr2,xr3]) rfl (HR.out _ _ ?_ ?_)
  ·exact(GA.out.tr G1.out).st4 (by omega) _ _ _ _
  ·exact cK.st4n (⟨_,_,_,_,_,_,_,_,rfl,HA1.out.gr (GA.out.tr G1.out),HA2.out.gr (GA.out.tr G1.out)⟩) BN.out _ _ _ _ (bB _ _ _)
set_option maxHeartbeats 3000000 in
theorem way_any (p q n:Int)(w:World)(hp:I64 p)(hq:I64 q)(hn:I64 n){R:Ending->World->Prop}
  (hR:∀ v w',aB w w'->cK w' (fun b=>w.heap.size<=b) v (n-p) (q-p) 5 5->R (.returned v) w'):
  Calls Tryz.prog 111 #[.int .i64 p,.int .i64 q,.int .i64 n] w R:=by
 have HR:=Lh hR;clear hR
 obtain⟨w0,hw0⟩:∃ w0,w0=w.alloc (.cells #[.bool false,.slice none 0 0,.bool false,.slice none 0 0] 111):=⟨_,rfl⟩
 have G0:Hid (aB w w0):=by subst hw0;exact(aB.refl w).al _
 have F0:Hid (∀ W,aB w0 W->W.heap[w.heap.size]? =some (.cells #[.bool false,.slice none 0 0,.bool false,.slice none 0 0] 111 (0,0))):=fun W h=>by subst hw0;exact aR _ _ _ h
 go_enter Tryz.func111,Tryz.ntmps111
 go_wp2_with fail
 rw[<-hw0];clear hw0;go_at_call 96;refine gD n _ hn ?_;intro r1 w1 hg1 hr1;have G1:=Lh hg1;have R1:=Lh hr1;clear hg1 hr1;go_wp2_with fail
 go_at_call 96;refine gD p _ hp ?_;intro r2 w2 hg2 hr2;have G2:=Lh (G1.out.tr hg2);have R1:=Lh (R1.out.gr hg2);have R2:=Lh hr2;clear hg2 hr2;go_wp2_with fail
 go_at_call 112;refine kY n p 4 4 _ _ _ _ w2 R1.out R2.out (by omega) (by omega) ?_;intro r3 w3 hg3 hr3;have G3:=Lh (G2.out.tr hg3);have R3:=Lh hr3;have Z2:Hid (w.heap.size<=w2.heap.size):=(G0.out.tr G2.out).size;clear hg3 hr3 R1 R2;go_wp2_with fail
 go_at_call 96;refine gD q _ hq ?_;intro r4 w4 hg4 hr4;have G4:=Lh (G3.out.tr hg4);have R3:=Lh (R3.out.gr hg4);have R4:=Lh hr4;clear hg4 hr4;go_wp2_with fail
 go_at_call 96;refine gD p _ hp ?_;intro r5 w5 hg5 hr5;have G5:=Lh (G4.out.tr hg5);have R3:=Lh (R3.out.gr hg5);have R4:=Lh (R4.out.gr hg5);have R5:=Lh hr5;clear hg5 hr5;go_wp2_with fail
 go_at_call 112;refine kY q p 4 4 _ _ _ _ w5 R4.out R5.out (by omega) (by omega) ?_;intro r6 w6 hg6 hr6;obtain⟨p3,A3,m3,c3,rfl⟩:=R3.out.parts;obtain⟨p6,A6,m6,c6,rfl⟩:=hr6.parts;have G6:=Lh (G5.out.tr hg6);have R3:=Lh (R3.out.gr hg6);have R6:=Lh hr6;have Z5:Hid (w.heap.size<=w5.heap.size):=(G0.out.tr G5.out).size;clear hg6 hr6 R4 R5;have hb:=F0.out _ G6.out
 have BN:Hid (eI w6 w.heap.size):=⟨_,_,_,hb,gY _ _ _ _ _ _ _ _⟩
 have xc0:=cell_of_row _ (w.heap.size) 0 _ _ (0,0) hb;have xf0:=frozen_of_row _ (w.heap.size) 0 _ _ hb;have xb1:=aF hb 0 (.bool p3);have xc1:=cell_of_row _ (w.heap.size) 1 _ _ (0,0) xb1;have xf1:=frozen_of_row _ (w.heap.size) 1 _ _ xb1;have xb2:=aF xb1 1 (.slice A3 m3 c3);have xc2:=cell_of_row _ (w.heap.size) 2 _ _ (0,0) xb2;have xf2:=frozen_of_row _ (w.heap.size) 2 _ _ xb2;have xb3:=aF xb2 2 (.bool p6);have xc3:=cell_of_row _ (w.heap.size) 3 _ _ (0,0) xb3;have xf3:=frozen_of_row _ (w.heap.size) 3 _ _ xb3
 have xb4:=aF xb3 3 (.slice A6 m6 c6);have xr0:=cell_of_row _ (w.heap.size) 0 _ _ (0,0) xb4;have xr1:=cell_of_row _ (w.heap.size) 1 _ _ (0,0) xb4;have xr2:=cell_of_row _ (w.heap.size) 2 _ _ (0,0) xb4;have xr3:=cell_of_row _ (w.heap.size) 3 _ _ (0,0) xb4;simp only[sA,sZ,sS] at xc0 xc1 xc2 xc3 xr0 xr1 xr2 xr3;clear xb1 xb2 xb3 xb4;go_wp2;refine bodyPost_ret (v:=.agg #[.bool p3,.slice A3 m3 c3,.bool p6,.slice A6 m6 c6]) (by simp[results,Tryz.f111,go_sem,xr0,xr1,xr2,xr3]) rfl (HR.out _ _ ?_ ?_)
 ·exact(G0.out.tr G6.out).st4 (Nat.le_refl _) _ _ _ _
 ·exact cK.st4n (⟨_,_,_,_,_,_,_,_,rfl,R3.out.into fun b hb=>by have:=Z2.out;omega,R6.out.into fun b hb=>by have:=Z5.out;omega⟩) BN.out _ _ _ _ (bB _ _ _)
def cO (p q lo hi:Int):Rat:=(((if q<p then hi else lo)-p:Int):Rat)/((q-p:Int):Rat)
def cN (p q lo hi:Int):Rat:=(((if q<p then lo else hi)-p:Int):Rat)/((q-p:Int):Rat)
def bN (a b:Rat)(p q lo hi:Int):Rat×Rat×Bool:=
 if p=q then(a,b,decide (lo<=p)&&decide (p<=hi))
 else(if a<cO p q lo hi then cO p q lo hi else a,if cN p q lo hi<b then cN p q lo hi else b,
  decide ((if a<cO p q lo hi then cO p q lo hi else a)<=(if cN p q lo hi<b then cN p q lo hi else b)))
end Go.Proofs.YtjalimkajcjapaaGreatDoor
