import Derived.Test.YtjalimkajcjapaaGreatDoorCrossA
namespace Go.Proofs.YtjalimkajcjapaaGreatDoor
set_option maxRecDepth 100000
open Go.RowKit Go.Lib B
end Go.Proofs.YtjalimkajcjapaaGreatDoor
namespace Go.Proofs.YtjalimkajcjapaaGreatDoor
set_option maxRecDepth 100000
open Go.RowKit Go.Lib B
set_option maxHeartbeats 2000000 in
theorem xD (f:Fr)(n:Int)(w:World)(hf:f.ok){R:Ending->World->Prop}(hR:∀ w',aB w w'->R (.returned (.int .i64 (if f.right=true then orL [aZ f.q n,aZ (f.r:Int) 0] else 0))) w'):
  Calls Tryz.prog 129 #[.agg f.cells.toArray,.int .i64 n] w R:=by
 have HR:=Lh hR;clear hR;have FR:=Lh fun W (R:Ending->World->Prop) hR=>nR f W hf (R:=R) hR
 obtain⟨ok,hok⟩:∃ ok,f.right=ok:=⟨_,rfl⟩
 rw[hok] at FR HR;clear hok hf;obtain⟨q,r,d⟩:=f;unfold Fr.cells at FR ⊢;dsimp only at FR HR ⊢
 obtain⟨w0,hw0⟩:∃ w0,w0=w.alloc (.cells #[.int .i64 q,.int .u64 (r:Nat),.int .u64 (d:Nat)] 130):=⟨_,rfl⟩
 have G0:Hid (aB w w0):=by subst hw0;exact(aB.refl w).al _
 have F0:Hid (∀ W,aB w0 W->W.heap[w.heap.size]? =some (.cells #[.int .i64 q,.int .u64 (r:Nat),.int .u64 (d:Nat)] 130 (0,0))):=fun W h=>by subst hw0;exact aR _ _ _ h
 cases ok with
 |false=>
  simp only[Bool.false_eq_true,if_false] at HR;go_enter Tryz.func129,Tryz.ntmps129
  go_wp2_with fail
  rw[<-hw0];clear hw0;go_at_call 128;refine FR.out _ _ ?_;intro w1 hg1;have G1:=Lh (G0.out.tr hg1);clear hg1;go_wp2;exact HR.out _ G1.out
 |true=>
  simp only[if_true] at HR;have C1:=Lh fun W (R:Ending->World->Prop) hR=>jI q n W (R:=R) hR
  have C2:=Lh fun W (R:Ending->World->Prop) hR=>rB (r:Int) 0 W (R:=R) hR
  have OR:=Lh fun v S W h (R:Ending->World->Prop) hR=>or_any [aZ q n,aZ (r:Int) 0] v S W h (by simp) (R:=R) hR
  generalize orL [aZ q n,aZ (r:Int) 0]=m at*;generalize aZ q n=x1 at*;generalize aZ (r:Int) 0=x0 at*;go_enter Tryz.func129,Tryz.ntmps129
  go_wp2_with fail
  rw[<-hw0];clear hw0;go_at_call 128;refine FR.out _ _ ?_;intro w1 hg1;have G1:=Lh hg1;clear hg1;go_wp2_with fail
  refine aE (aB w1) ((aB.refl w1).dr) 6 [0,1,2,4,5,3] (by kernel_rfl) (by kernel_rfl) (by intro c a d v w h;cases d<;>exact h) ?_
  iterate 5 (apply aD;exact rfl;exact rfl;(intro W hW;have z0:=cell_of_row _ w.heap.size 0 _ _ (0,0) (F0.out _ (G1.out.tr hW));have z1:=cell_of_row _ w.heap.size 1 _ _ (0,0) (F0.out _ (G1.out.tr hW));(try clear hW);go_simp;with_reducible rfl);try simp only[Act.put,sA,sZ,sS])
  apply aG;exact rfl;exact rfl;exact rfl;intro K hK;go_simp;go_at_call 50;refine C1.out _ _ ?_;refine hK.out _ _ (aB.refl w1).dr ?_;clear hK
  try simp only[Act.put,sA,sZ,sS]
  refine aK ?_;simp only[List.drop_succ_cons,List.drop_zero];go_wp2_with fail
  go_at_call 142;refine C2.out _ _ ?_;go_wp2_with fail
  go_at_call 141;refine OR.out _ _ _ ((Rd.lit w1 #[.int .i64 x1,.int .i64 x0] 3 2 (by decide) rfl).gr2 (by decide) (aB.refl _).dr) _ ?_;go_wp2;exact HR.out _ ((G0.out.tr G1.out).tr ((aB.refl w1).al _).dr)
end Go.Proofs.YtjalimkajcjapaaGreatDoor
