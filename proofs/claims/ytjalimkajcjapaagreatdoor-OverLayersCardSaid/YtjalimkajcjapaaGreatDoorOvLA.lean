import Derived.Test.YtjalimkajcjapaaGreatDoorOvD
import Derived.Test.YtjalimkajcjapaaGreatDoorTRight
import Derived.Test.YtjalimkajcjapaaGreatDoorOvJV
namespace Go.Proofs.YtjalimkajcjapaaGreatDoor
set_option maxRecDepth 100000
open Go.RowKit B
theorem kU (w:World)(b i:Nat)(v:Value):Tn (fun j=>j=b) w (w.setCell ⟨b,i,none⟩ v):=
 ⟨rfl,rfl,rfl,by simp[World.setCell],fun k _ hk=>by
  have:¬ b=k:=fun e=>hk e.symm
  simp[World.setCell,Array.getElem?_modify,this]⟩
theorem FtR.rd.tn {D S:Nat->Prop}{x:FtR}{w w':World}(h:x.rd w S)(ht:Tn D w w')(hD:∀ b,S b->¬ D b):x.rd w' S:=
 ⟨Tn.rd h.1 (by decide) ht hD,fun r hr=>Tn.rd (h.2.1 r hr) (by decide) ht hD,Tn.rd h.2.2 (by decide) ht hD⟩
theorem FtR.rd.into {S T:Nat->Prop}{w:World}{x:FtR}(h:x.rd w S)(hp:∀ b,S b->T b):x.rd w T:=
 ⟨h.1.into hp,fun r hr=>Rd.into (h.2.1 r hr) hp,h.2.2.into hp⟩
theorem FtR.rd.lt2 {S:Nat->Prop}{w:World}{x:FtR}(h:x.rd w S):x.rd w (fun b=>S b/\b<w.heap.size):=
 ⟨h.1.and_lt (by decide),fun r hr=>Rd.and_lt (h.2.1 r hr) (by decide),h.2.2.and_lt (by decide)⟩
theorem FtR.rd.fm2 {x:FtR}{w:World}{S:Nat->Prop}(h:x.rd w S):∃ A c B d,x.f.pv=.slice A x.A.length c/\x.f.av=.slice B x.B.length d:=by
 obtain⟨⟨_,A,c,e1,_⟩,_,⟨_,B,d,e2,_⟩⟩:=h;exact⟨A,c,B,d,e1,e2⟩
theorem xH:jT Tryz.prog 22 44 (.agg #[.bool false,.int .u64 0,.int .i64 0,.slice none 0 0,.slice none 0 0]) 5 72:=⟨by kernel_rfl,by kernel_rfl,rfl,by decide,by decide⟩
structure OS (base:Nat) (N:Nat->Prop) (v:Value) (F:List FtR) (w:World):Prop where
 own:w.ownsRow base 44 5 v F.length (Fts F)
 els:∀ f∈F,f.rd w (fun b=>b<w.heap.size/\¬ N b/\v.ownBlock≠some b)
section
variable {base : Nat} {N : Nat -> Prop} {v v' : Value} {F : List FtR} {g : FtR} {w w' : World}
theorem OS.nil:OS base N (.slice none 0 0) [] w:=⟨World.ownsRow_nil _ _ _ _,by simp⟩
theorem OS.tn {D:Nat->Prop}(h:OS base N v F w)(ht:Tn D w w')(h1:∀ k,v.ownBlock=some k->¬ D k)(h2:∀ b,D b->N b):OS base N v F w':=
 ⟨Tn.own h.own ht h1,fun f hf=>((h.els f hf).tn ht fun b hb e=>hb.2.1 (h2 b e)).into fun _ hb=>⟨Nat.lt_of_lt_of_le hb.1 ht.size,hb.2⟩⟩
theorem OS.gr (h:OS base N v F w)(hg:aB w w'):OS base N v F w':=h.tn (D:=fun _=>False) (Tn.of hg) (fun _ _ h=>h) fun _ h=>h.elim
theorem OS.set {b i:Nat}{u:Value}(h:OS base N v F w)(hne:v.ownBlock≠some b)(hb:N b):OS base N v F (w.setCell ⟨b,i,none⟩ u):=
 h.tn (kU w b i u) (fun _ hk e=>hne (e▸hk)) fun _ e=>e▸hb
theorem OS.app (h:OS base N v F w)(hg:w.grownBy w' v.ownBlock)(ho:w'.ownsRow base 44 5 v' (F++[g]).length (Fts (F++[g])))(hb:v'.ownBlock=v.ownBlock∨v'.ownBlock=some (w.heap.size+1))
  (hd:g.rd w (fun b=>b<w.heap.size/\¬ N b/\v.ownBlock≠some b)):OS base N v' (F++[g]) w':=by
 refine⟨ho,fun f hf=>?_⟩
 have key:f.rd w (fun b=>b<w.heap.size/\¬ N b/\v.ownBlock≠some b):=by
  rcases List.mem_append.1 hf with hf|hf
  ·exact h.els f hf
  ·rw[List.mem_singleton.1 hf];exact hd
 refine(key.tn (Tn.by_ hg fun _ e=>e) fun b hb e=>hb.2.2 e).into fun b hb1=>⟨Nat.lt_of_lt_of_le hb1.1 hg.size,hb1.2.1,fun e=>?_⟩
 rcases hb with hb|hb
 ·rw[hb] at e;exact hb1.2.2 e
 ·rw[hb] at e
  injection e with e
  have:=hb1.1;omega
theorem OS.fresh (h:OS base N v F w)(hN:∀ b,N b->base<=b/\b<w.heap.size)(hg:g.rd w' (fun b=>w.heap.size<=b∨b<base)):g.rd w' (fun b=>b<w'.heap.size/\¬ N b/\v.ownBlock≠some b):=
 hg.lt2.into fun b hb=>⟨hb.2,fun hn=>by have:=hN b hn;rcases hb.1 with h|h<;>omega,fun e=>by have:=h.own.lt b e;rcases hb.1 with h|h<;>omega⟩
end
/-! ### in plain Lean -/
def cM:LyP:=(⟨#[]⟩,0,[])
theorem lA {x:LyR}(h:bC ([x].map LyR.pl)=true):(1<=x.ext/\x.ext<=65536)/\∀ f∈x.F,aT f.f.ty f.A=0:=by
 unfold bC at h;simp only[List.map_cons,List.map_nil,List.all_cons,List.all_nil,Bool.and_true,Bool.and_eq_true,decide_eq_true_eq] at h;obtain⟨-,⟨-,h2⟩,h3⟩:=h;exact⟨h2,fun f hf=>((lT f).1 (List.all_eq_true.1 h3 f.pl (List.mem_map.2 ⟨f,hf,rfl⟩))).1⟩
theorem lW {w W:World}{S:Nat->Prop}{x:LyR}(h:x.rd w S)(hg:aB w W):kV (W.alloc (.cells x.cells.toArray 24)) (fun _=>True) (.slice (some ⟨W.heap.size,0,none⟩) 1 1) [x]:=by
 have e:Lys [x]=x.cells:=by unfold Lys;simp
 refine⟨?_,fun y hy=>?_⟩
 ·rw[e]
  exact(Rd.lit (size:=3) W x.cells.toArray 24 1 (by decide) rfl).into fun _ _=>trivial
 ·rw[List.mem_singleton.1 hy]
  have h2:=h.gr (hg.al (.cells x.cells.toArray 24));exact⟨h2.1.into fun _ _=>trivial,fun f hf=>(h2.2 f hf).into fun _ _=>trivial⟩
theorem dJ (w:World):LyR.rd ⟨⟨#[]⟩,0,.slice none 0 0,[]⟩ w (fun _=>True):=⟨Rd.nil,fun _ hf=>(nomatch hf)⟩
theorem OS.done {base:Nat}{N:Nat->Prop}{v:Value}{F:List FtR}{w:World}{nm:ByteArray}{e:Int}{b:Nat}{c c':Array Value}(h:OS base N v F w)(hb:w.heap[b]? =some (.cells c 24 (0,0)))(hN:N b):LyR.rd ⟨nm,e,v,F⟩ (w.setRow b c') (fun _=>True):=
 ⟨((Rd.own h.own).keep fun k hk=>setRow_other _ _ _ _ fun e=>bR h.own hb (by decide) (by rw[<-hk,e])).into fun _ _=>trivial,
  fun f hf=>⟨((h.els f hf).1.keep fun k hk=>setRow_other _ _ _ _ fun e=>hk.2.1 (by rw[e];exact hN)).into fun _ _=>trivial,fun r hr=>(Rd.keep ((h.els f hf).2.1 r hr) fun k hk=>setRow_other _ _ _ _ fun e=>hk.2.1 (by rw[e];exact hN)).into fun _ _=>trivial,((h.els f hf).2.2.keep fun k hk=>setRow_other _ _ _ _ fun e=>hk.2.1 (by rw[e];exact hN)).into fun _ _=>trivial⟩⟩
end Go.Proofs.YtjalimkajcjapaaGreatDoor
namespace Go.Proofs.YtjalimkajcjapaaGreatDoor
set_option maxRecDepth 100000
open Go.RowKit B
def ovF (z:Zm)(e:Int)(f:FtP):List FtP:=if dH f.2.2.1 z e f.2.2.2.1=[] then[] else[(f.1,f.2.1,f.2.2.1,dH f.2.2.1 z e f.2.2.2.1,f.2.2.2.2)]
def fQ (z:Zm)(x:LyP):LyP×Int:=
 if bC [x]=false then(cM,3) else if aS z x.2.1=false then(cM,1) else((x.1,x.2.1,x.2.2.flatMap (ovF z x.2.1)),0)
set_option maxHeartbeats 8000000 in
theorem keep_any (f:FtR)(z:Zm)(e:Int)(nm:ByteArray)(fv ov:Value)(F:List FtR)(base bz bx bo:Nat)(N:Nat->Prop)(W:World)
  (hz:W.heap[bz]? =some (.cells z.cells.toArray 26 (0,0))) (hx:W.heap[bx]? =some (.cells #[.string nm,.int .i64 e,fv] 24 (0,0))) (ho:W.heap[bo]? =some (.cells #[.string nm,.int .i64 e,ov] 24 (0,0)))
  (hs:OS base N ov F W) (hN:∀ b,N b->base<=b/\b<W.heap.size) (hbo:N bo) (hf:f.rd W (·<base)) (hl:f.A.length<=400/\∀ r∈f.A,r.l.length<=400) (hB:f.B.length<=1000000) (hzr:aS z e=true) (hpr:aT f.f.ty f.A=0) (hn:F.length<=1000000) {R:Ending->World->Prop}
  (hR:∀ v' F' W',F'.map FtR.pl=F.map FtR.pl++ovF z e f.pl->F'.length<=F.length+1->W'.heap[bo]? =some (.cells #[.string nm,.int .i64 e,v'] 24 (0,0))->OS base N v' F' W'->Tn (fun b=>b=bo∨ov.ownBlock=some b) W W'->R (.returned (.tuple #[])) W'):
  Calls Tryz.prog 16 #[.agg f.f.cells.toArray,.pointer (some ⟨bz,0,none⟩),.pointer (some ⟨bx,0,none⟩),.pointer (some ⟨bo,0,none⟩)] W R:=by
 have HR:=Lh hR;have HZ:=Lh hz;have HX:=Lh hx;have HO:=Lh ho;have HS:=Lh hs;have HN:=Lh hN;have HBO:=Lh hbo;have HZR:=Lh hzr;have HPR:=Lh hpr;have HF:=Lh hf;clear hR hz hx ho hs hN hbo hzr hpr;obtain⟨p1,p2,p3,p4,hp,ha⟩:=hf.fm2;obtain⟨⟨h,id,ty,pv,av⟩,A,B⟩:=f;dsimp only at hp ha hl hB HPR;subst hp ha;have HL:=Lh hl;have SB:Hid (base<=W.heap.size):=by have:=HN.out bo HBO.out;show _<=_;omega
 obtain⟨q1,q2,q3⟩:=hf;have FE:=Lh fun w (hg:aB W w) (R:Ending->World->Prop) h1 h2=>wZ (⟨h,id,ty,.slice p1 A.length p2,.slice p3 B.length p4⟩:Ft) z e A B.length (rQ B) (·<base) (·<base) (·<base) w (q1.gr2 (by decide) hg) (fun r hr=>(q2 r hr).gr2 (by decide) hg) (q3.gr2 (by decide) hg) rI (by omega) HL.out (R:=R) h1 h2
 unfold FtR.cells Ft.cells at*;dsimp only at*;clear q1 q2 q3 hl;go_enter Tryz.func16,Tryz.ntmps16
 go_upto_region 1 with fail
 have G1:Hid (aB W (W.alloc (.cells #[.bool h,.int .u64 id,.int .i64 ty,.slice p1 A.length p2,.slice p3 B.length p4] 44))):=(aB.refl _).al _;have BF:Hid ((W.alloc (.cells #[.bool h,.int .u64 id,.int .i64 ty,.slice p1 A.length p2,.slice p3 B.length p4] 44)).heap[W.heap.size]? =some (.cells #[.bool h,.int .u64 id,.int .i64 ty,.slice p1 A.length p2,.slice p3 B.length p4] 44 (0,0))):=heap_alloc_new _ _;generalize W.alloc (.cells #[.bool h,.int .u64 id,.int .i64 ty,.slice p1 A.length p2,.slice p3 B.length p4] 44)=wa at*;have HZ1:=Lh (aC G1.out HZ.out)
 have x1:=cell_of_row _ _ 1 _ _ _ (aC G1.out HX.out)
 obtain⟨gb,hgb⟩:∃ gb,W.heap.size=gb:=⟨_,rfl⟩
 rw[hgb] at BF;rw[hgb];go_wp2_with (first|(refine wpList_load_row rfl 44 _ rfl gb rfl 44 _ _ _ BF.out Tryz.underlying44 rfl (by kernel_rfl) ?_)|(refine wpList_load_row rfl 26 _ rfl bz rfl 26 _ _ _ HZ1.out Tryz.underlying26 rfl (by kernel_rfl) ?_))
 go_at_call 17;refine FE.out _ G1.out _ ?_ ?_
 ·intro hbad w4 hg4
  have G4:=Lh (G1.out.tr hg4)
  have EM:Hid (ovF z e (FtR.pl ⟨⟨h,id,ty,.slice p1 A.length p2,.slice p3 B.length p4⟩,A,B⟩)=[]):=by
   show _=_;unfold ovF FtR.pl;dsimp only;rw[if_pos (hbad HZR.out HPR.out)]
  clear hbad hg4 FE x1
  try unfold aV
  try unfold Ft.cells
  dsimp only;go_upto_region 2 with fail
  have G5:Hid (aB W (w4.alloc (.cells #[.bool false,.int .u64 0,.int .i64 0,.slice none 0 0,.slice none 0 0] 44))):=G4.out.al _;have FIN:=Lh (HR.out ov F _ (by rw[EM.out,List.append_nil]) (Nat.le_succ _) (aC G5.out HO.out) (HS.out.gr G5.out) (Tn.of G5.out));clear HR;go_wp2
  try go_end0
  exact FIN.out
 ·intro _ _ hne pv1 av1 rows w4 hg4 hp1 hr1 hm1 ha1
  have G4:=Lh (G1.out.tr hg4)
  have EM:Hid (ovF z e (FtR.pl ⟨⟨h,id,ty,.slice p1 A.length p2,.slice p3 B.length p4⟩,A,B⟩)=[FtR.pl ⟨⟨h,id,ty,pv1,av1⟩,rows,B⟩]):=by
   show _=_;unfold ovF FtR.pl;dsimp only;rw[if_neg hne,hm1]
  have XR:Hid ((⟨⟨h,id,ty,pv1,av1⟩,rows,B⟩:FtR).rd w4 (fun b=>W.heap.size<=b∨b<base)):=
   ⟨hp1.into fun b hb=>.inl (Nat.le_trans G1.out.size hb),fun r hr=>Rd.into (hr1 r hr) fun b hb=>.inl (Nat.le_trans G1.out.size hb),ha1.into fun b hb=>hb.imp (fun h=>Nat.le_trans G1.out.size h) fun h=>h⟩
  obtain⟨P1,P2,P3,P4,e1,e2⟩:=XR.out.fm2;dsimp only at e1 e2;subst e1 e2;have XN:=Lh (HS.out.fresh HN.out XR.out);clear hg4 FE x1 hp1 hr1 hm1 ha1 hne XR;dsimp only;go_upto_region 2 with fail
  have GL:Hid (aB w4 (w4.alloc (.cells #[.bool h,.int .u64 id,.int .i64 ty,.slice P1 rows.length P2,.slice P3 B.length P4] 44))):=(aB.refl _).al _;have BG:Hid ((w4.alloc (.cells #[.bool h,.int .u64 id,.int .i64 ty,.slice P1 rows.length P2,.slice P3 B.length P4] 44)).heap[w4.heap.size]? =some (.cells #[.bool h,.int .u64 id,.int .i64 ty,.slice P1 rows.length P2,.slice P3 B.length P4] 44 (0,0))):=heap_alloc_new _ _;generalize w4.alloc (.cells #[.bool h,.int .u64 id,.int .i64 ty,.slice P1 rows.length P2,.slice P3 B.length P4] 44)=w5 at*
  have G5:=Lh (G4.out.tr GL.out);have HO5:=Lh (aC G5.out HO.out);have HS5:=Lh (HS.out.gr G5.out);have XN5:=Lh ((XN.out.gr GL.out).into fun b hb=>(⟨Nat.lt_of_lt_of_le hb.1 GL.out.size,hb.2⟩:b<w5.heap.size/\¬ N b/\ov.ownBlock≠some b));have SZ:base<=w5.heap.size:=Nat.le_trans SB.out G5.out.size;generalize w4.heap.size=hb at*;obtain⟨O1,O2,hov⟩:=aH HS5.out.own;subst hov;have o2:=cell_of_row _ _ 2 _ _ _ HO5.out;clear GL XN BF HZ1
  go_wp2_with (first|(refine wpList_load_row rfl 44 _ rfl hb rfl 44 _ _ _ BG.out Tryz.underlying44 rfl (by kernel_rfl) ?_)|(at_builtin;refine dU rfl _ _ rfl xH HS5.out.own rfl 1 _ rfl _ rfl (by decide) rfl (by simp[Value.oneCell']) (by omega) SZ ?_;intro v7 w7 hown7 hgr7 hb7;obtain⟨A7,k7,hv7⟩:=aH hown7;subst hv7;have S7:=Lh (HS5.out.app (g:=⟨⟨h,id,ty,.slice P1 rows.length P2,.slice P3 B.length P4⟩,rows,B⟩) hgr7 (aO hown7 (by simp) (by simp[Fts,FtR.cells,Ft.cells])) hb7 XN5.out);have T7:Hid (Tn (fun b=>b=bo∨(Value.slice O1 F.length O2).ownBlock=some b) W w7):=(Tn.of G5.out).tr (Tn.by_ (D:=fun b=>b=bo∨(Value.slice O1 F.length O2).ownBlock=some b) hgr7 fun k hk=>.inr hk) fun j _ h=>h;have HO7:=Lh ((hgr7.block bo (lt_of_block HO5.out) (fun e=>bR HS5.out.own HO5.out (by decide) e.symm)).trans HO5.out);have g7:=frozen_of_row _ bo 2 _ _ HO7.out;have c7:=cell_of_row _ bo 2 _ _ _ HO7.out;have NE7:=Lh (qM (bR HS5.out.own HO5.out (by decide)) (lt_of_block HO5.out) hb7);clear hown7 hgr7 hb7 o2))
  try go_end0
  exact HR.out (.slice A7 (F.length+1) k7) (F++[⟨⟨h,id,ty,.slice P1 rows.length P2,.slice P3 B.length P4⟩,rows,B⟩]) _ (by rw[EM.out,List.map_append];rfl) (by rw[List.length_append];exact Nat.le_refl _) (aF HO7.out 2 (.slice A7 (F.length+1) k7)) (S7.out.set NE7.out HBO.out) (T7.out.tr (kU _ bo 2 (.slice A7 (F.length+1) k7)) fun j _ h=>.inl h)
structure LX (w:World) (c0 c1 c2:Array Value) (W:World):Prop where
 gr:aB w W
 bx:W.heap[w.heap.size]? =some (.cells c0 24 (0,0))
 bz:W.heap[w.heap.size+1]? =some (.cells c1 26 (0,0))
 br:W.heap[w.heap.size+1+1]? =some (.cells c2 24 (0,0))
theorem LX.tr {w W W':World}{c0 c1 c2:Array Value}(h:LX w c0 c1 c2 W)(hg:aB W W'):LX w c0 c1 c2 W':=⟨h.gr.tr hg,aC hg h.bx,aC hg h.bz,aC hg h.br⟩
theorem LX.laid (w:World)(c0 c1 c2:Array Value):LX w c0 c1 c2 (((w.alloc (.cells c0 24)).alloc (.cells c1 26)).alloc (.cells c2 24)):=by
 refine⟨(((aB.refl _).al _).al _).al _,aC (((aB.refl _).al _).al _) (heap_alloc_new w _),?_,?_⟩
 ·have:=aC ((aB.refl _).al (.cells c2 24)) (heap_alloc_new (w.alloc (.cells c0 24)) (.cells c1 26))
  rwa[World.size_alloc] at this
 ·have:=heap_alloc_new ((w.alloc (.cells c0 24)).alloc (.cells c1 26)) (.cells c2 24)
  rwa[World.size_alloc,World.size_alloc] at this
theorem LX.tn {w W W':World}{c0 c1 c2:Array Value}{bo n base:Nat}{ov:Value}{xs:List Value}(h:LX w c0 c1 c2 W)(ho:W.ownsRow base 44 5 ov n xs)(hb:w.heap.size+1+1<bo)(hbase:w.heap.size<=base)(ht:Tn (fun b=>b=bo∨ov.ownBlock=some b) W W'):LX w c0 c1 c2 W':=
 ⟨ht.gr h.gr fun j hj=>by rcases hj with rfl|hj<;>first|omega|exact Nat.le_trans hbase (ho.lt j hj).1,
  ht.blk h.bx fun e=>by rcases e with e|e<;>first|omega|exact bR ho h.bx (by decide) e,
  ht.blk h.bz fun e=>by rcases e with e|e<;>first|omega|exact bR ho h.bz (by decide) e,
  ht.blk h.br fun e=>by rcases e with e|e<;>first|omega|exact bR ho h.br (by decide) e⟩
set_option maxHeartbeats 16000000 in
theorem yU (x:LyR)(z:Zm)(S:Nat->Prop)(w:World)(hx:x.rd w S)(hok:x.ok)(hT:kD w)(hn:x.F.length<=300)(hl:∀ f∈x.F,(f.A.length<=400/\∀ r∈f.A,r.l.length<=400)/\f.B.length<=1000){R:Ending->World->Prop}
  (hR:∀ (y:LyR) (c:Int) w',(y.pl,c)=fQ z x.pl->y.rd w' (fun _=>True)->aB w w'->R (.returned (.tuple #[.agg y.cells.toArray,.int .i64 c])) w'):
  Calls Tryz.prog 6 #[.agg x.cells.toArray,.agg z.cells.toArray] w R:=by
 have HR:=Lh hR;have HL:=Lh hl;have TR:=Lh fun W (hg:aB w W) (R:Ending->World->Prop) hR=>pM _ [x] (fun _=>True) _ (lW hx hg) (fun y hy=>List.mem_singleton.1 hy▸hok) (hT.gr (hg.al (.cells x.cells.toArray 24))) (fun y hy f hf=>by rw[List.mem_singleton.1 hy] at hf;have:=(hl f hf).2;omega) (by simp) (R:=R) hR
 have OR:=Lh fun W (R:Ending->World->Prop) hR=>jM z x.ext W (R:=R) hR
 have E3:Hid (bC ([x].map LyR.pl)=false->fQ z x.pl=(cM,3)):=fun h=>by unfold fQ;rw[if_pos (show bC [x.pl]=false from h)]
 have E1:Hid (bC ([x].map LyR.pl)=true->aS z x.ext=false->fQ z x.pl=(cM,1)):=fun h h2=>by unfold fQ;rw[if_neg (show ¬ bC [x.pl]=false from by rw[show bC [x.pl]=true from h];decide),if_pos (show aS z x.pl.2.1=false from h2)]
 have E0:Hid (bC ([x].map LyR.pl)=true->aS z x.ext=true->fQ z x.pl=((x.nm,x.ext,(x.F.map FtR.pl).flatMap (ovF z x.ext)),0)):=fun h h2=>by unfold fQ;rw[if_neg (show ¬ bC [x.pl]=false from by rw[show bC [x.pl]=true from h];decide),if_neg (show ¬ aS z x.pl.2.1=false from by rw[show aS z x.pl.2.1=true from h2];decide)];rfl
 have RT:=Lh (lA (x:=x));obtain⟨hx1,hx2⟩:=hx;have RFE:Hid (∀ f∈x.F,f.rd w (·<w.heap.size)):=fun f hf=>((hx2 f hf).lt2).into fun _ h=>h.2
 clear hR hok hT hl hx2;generalize bC ([x].map LyR.pl)=rt at*;obtain⟨nm,e,fv,F⟩:=x;dsimp only at*;have hx1:=hx1.lt (by decide);obtain⟨_,X,cx,rfl,x1,x2,x3,x4⟩:=hx1;unfold maxLen at x2;unfold LyR.cells at*;dsimp only at*
 obtain⟨wa,hwa⟩:∃ wa,wa=((w.alloc (.cells #[.string nm,.int .i64 e,.slice X F.length cx] 24)).alloc (.cells z.cells.toArray 26)).alloc (.cells #[.string ⟨#[]⟩,.int .i64 0,.slice none 0 0] 24):=⟨_,rfl⟩
 have BX:Hid (LX w #[.string nm,.int .i64 e,.slice X F.length cx] z.cells.toArray #[.string ⟨#[]⟩,.int .i64 0,.slice none 0 0] wa):=by rw[hwa];exact LX.laid _ _ _ _
 go_enter Tryz.func6,Tryz.ntmps6
 go_upto_region 1 with fail
 rw[<-hwa];clear hwa;go_wp2_with (refine wpList_load_row rfl 24 _ rfl w.heap.size rfl 24 _ _ _ BX.out.bx Tryz.underlying24 rfl (by kernel_rfl) ?_)
 go_at_call 14;refine TR.out wa BX.out.gr _ ?_;intro c w1 hc hg1;have BX:=Lh (BX.out.tr (((aB.refl wa).al _).tr hg1));clear hg1 TR
 cases c with
 |false=>
  have HB:Hid (rt=false):=by cases rt with|false=>rfl|true=>exact absurd (hc.2 rfl) (by decide)
  clear hc;go_wp2_with (refine wpList_store_row rfl 24 _ _ rfl (w.heap.size+1+1) #[.string ⟨#[]⟩,.int .i64 0,.slice none 0 0] rfl rfl 24 _ BX.out.br (by kernel_rfl) rfl (by simp[Value.oneCell']) ?_)
  refine bodyPost_ret (v:=.tuple #[.agg #[.string ⟨#[]⟩,.int .i64 0,.slice none 0 0],.int .i64 3]) ?_ rfl (HR.out ⟨⟨#[]⟩,0,.slice none 0 0,[]⟩ 3 _ (by rw[E3.out HB.out];rfl) (dJ _) (BX.out.gr.row2 (show w.heap.size<=w.heap.size+1+1 by omega) _));exact aQ rfl _ _ (w.heap.size+1+1) _ _ _ _ rfl (setRow_heap _ _ _ _ _ _ BX.out.br) rfl rfl Tryz.underlying24 (by kernel_rfl)
 |true=>
  have HB:=Lh (hc.1 rfl);have x1':=cell_of_row _ w.heap.size 1 _ _ (0,0) BX.out.bx;clear hc E3;go_wp2_with (refine wpList_load_row rfl 26 _ rfl (w.heap.size+1) rfl 26 _ _ _ BX.out.bz Tryz.underlying26 rfl (by kernel_rfl) ?_)
  go_at_call 15;refine OR.out _ _ ?_;intro w2 hg2;have BX:=Lh (BX.out.tr hg2);clear hg2 OR x1'
  cases hz:aS z e with
  |false=>
   have HZ:=Lh hz;clear hz;go_wp2_with (refine wpList_store_row rfl 24 _ _ rfl (w.heap.size+1+1) #[.string ⟨#[]⟩,.int .i64 0,.slice none 0 0] rfl rfl 24 _ BX.out.br (by kernel_rfl) rfl (by simp[Value.oneCell']) ?_)
   refine bodyPost_ret (v:=.tuple #[.agg #[.string ⟨#[]⟩,.int .i64 0,.slice none 0 0],.int .i64 1]) ?_ rfl (HR.out ⟨⟨#[]⟩,0,.slice none 0 0,[]⟩ 1 _ (by rw[E1.out HB.out HZ.out];rfl) (dJ _) (BX.out.gr.row2 (show w.heap.size<=w.heap.size+1+1 by omega) _));exact aQ rfl _ _ (w.heap.size+1+1) _ _ _ _ rfl (setRow_heap _ _ _ _ _ _ BX.out.br) rfl rfl Tryz.underlying24 (by kernel_rfl)
  |true=>
   have HZ:=Lh hz;have E:=Lh (E0.out HB.out hz);have PRS:=Lh (RT.out HB.out).2;clear hz E1 E0 RT HB;have y0:=cell_of_row _ w.heap.size 0 _ _ (0,0) BX.out.bx;have y1:=cell_of_row _ w.heap.size 1 _ _ (0,0) BX.out.bx;go_upto_region 6 with fail
   have LBO:Hid (w.heap.size+1+1<w2.heap.size):=lt_of_block BX.out.br;have GL:Hid (aB w2 (w2.alloc (.cells #[.string nm,.int .i64 e,.slice none 0 0] 24))):=(aB.refl _).al _;have BO:Hid ((w2.alloc (.cells #[.string nm,.int .i64 e,.slice none 0 0] 24)).heap[w2.heap.size]? =some (.cells #[.string nm,.int .i64 e,.slice none 0 0] 24 (0,0))):=heap_alloc_new _ _;have BX:=Lh (BX.out.tr GL.out);clear GL y0 y1;generalize w2.alloc (.cells #[.string nm,.int .i64 e,.slice none 0 0] 24)=w3 at*;generalize w2.heap.size=bo at*
   have y2:=cell_of_row _ w.heap.size 2 _ _ (0,0) BX.out.bx;have hmf:∀ (fn:Fn) (first cap:Array Value) (w:World),(Instr.makeFunc fn first cap).run Tryz.prog w=.ok (.func fn first cap) w:=fun _ _ _ _=>rfl
   go_wp2_with fail
   clear y2 hmf
   go_loopw [32] (fun i wr=>∃ k:Nat,k<=F.length/\i=.int .i64 k/\Hid (∃ ov F',F'.map FtR.pl=((F.take k).map FtR.pl).flatMap (ovF z e)/\F'.length<=k/\wr.heap[bo]? =some (.cells #[.string nm,.int .i64 e,ov] 24 (0,0))/\OS w.heap.size (fun b=>b=w.heap.size+1+1∨b=bo) ov F' wr)/\Hid (LX w #[.string nm,.int .i64 e,.slice X F.length cx] z.cells.toArray #[.string ⟨#[]⟩,.int .i64 0,.slice none 0 0] wr)) (fun i _=>F.length-(intOf i).toNat)
   case atStart=>exact⟨0,Nat.zero_le _,rfl,⟨_,[],rfl,Nat.le_refl _,BO.out,OS.nil⟩,BX.out⟩
   case round=>
    clear BO BX;obtain⟨k,hk,rfl,hP,hB⟩:=hrel;have BX:=Lh hB.out;obtain⟨ov,F',q1,q2,q3,q4⟩:=hP.out;clear hP hB;have HO:=Lh q3;have HS:=Lh q4;have Q1:=Lh q1;clear q1 q3 q4
    by_cases hlt:k<F.length
    ·obtain⟨b1,o1,rfl,hb1,hc1⟩:=x4 (by omega)
     have e1:=aL FtR.cells_len BX.out.gr hb1 hc1 hlt;have RJ:=Lh (RFE.out F[k] (List.getElem_mem hlt));have LJ:=HL.out F[k] (List.getElem_mem hlt);have PJ:=Lh (PRS.out F[k] (List.getElem_mem hlt))
     have TJ:Hid (((F.take (k+1)).map FtR.pl).flatMap (ovF z e)=((F.take k).map FtR.pl).flatMap (ovF z e)++ovF z e F[k].pl):=by
      show _=_;rw[List.take_succ_eq_append_getElem hlt,List.map_append,List.flatMap_append];simp
     clear hc1;generalize F[k]=f at*;obtain⟨p1,p2,p3,p4,hp,ha⟩:=RJ.out.fm2;obtain⟨⟨h,id,ty,pv,av⟩,A,B⟩:=f;dsimp only at hp ha LJ PJ;subst hp ha;have u0:=e1 0 _ rfl;have u1:=e1 1 _ rfl;have u2:=e1 2 _ rfl;have u3:=e1 3 _ rfl;have u4:=e1 4 _ rfl;simp only[Nat.add_zero] at u0;clear e1;go_upto_region 10 with fail
     have GL:Hid (aB wr (wr.alloc (.cells #[.bool h,.int .u64 id,.int .i64 ty,.slice p1 A.length p2,.slice p3 B.length p4] 44))):=(aB.refl _).al _;have BF:Hid ((wr.alloc (.cells #[.bool h,.int .u64 id,.int .i64 ty,.slice p1 A.length p2,.slice p3 B.length p4] 44)).heap[wr.heap.size]? =some (.cells #[.bool h,.int .u64 id,.int .i64 ty,.slice p1 A.length p2,.slice p3 B.length p4] 44 (0,0))):=heap_alloc_new _ _;have BX2:=Lh (BX.out.tr GL.out);have HO2:=Lh (aC GL.out HO.out);have HS2:=Lh (HS.out.gr GL.out);clear u0 u1 u2 u3 u4 GL BX HO HS
     generalize wr.alloc (.cells #[.bool h,.int .u64 id,.int .i64 ty,.slice p1 A.length p2,.slice p3 B.length p4] 44)=wb at*;generalize wr.heap.size=gb at*
     have NN:Hid (∀ b,(b=w.heap.size+1+1∨b=bo)->w.heap.size<=b/\b<wb.heap.size):=fun b hb=>by
      have:=lt_of_block HO2.out;have:=lt_of_block BX2.out.br;have:=LBO.out;rcases hb with rfl|rfl<;>omega
     go_wp2_with (refine wpList_load_row rfl 44 _ rfl gb rfl 44 _ _ _ BF.out Tryz.underlying44 rfl (by kernel_rfl) ?_)
     go_at_call 16;refine keep_any ⟨⟨h,id,ty,.slice p1 A.length p2,.slice p3 B.length p4⟩,A,B⟩ z e nm (.slice (some ⟨b1,o1,none⟩) F.length cx) ov F' w.heap.size (w.heap.size+1) w.heap.size bo _ wb BX2.out.bz BX2.out.bx HO2.out HS2.out NN.out (.inr rfl) (RJ.out.gr BX2.out.gr) LJ.1 (by have:=LJ.2;dsimp only;omega) HZ.out PJ.out (by omega) ?_;intro v' F'' w' m1 m2 m3 m4 m5;have BX3:=Lh (BX2.out.tn HS2.out.own LBO.out (Nat.le_refl _) m5);go_wp2_with fail
     go_roundw
     case rel=>exact⟨k+1,by omega,by go_num,⟨v',F'',by rw[m1,Q1.out,TJ.out],by omega,m3,m4⟩,BX3.out⟩
     case measure=>simp[intOf];omega
    ·obtain rfl:k=F.length:=by omega
     rw[List.take_length] at Q1;obtain⟨O1,O2,hov⟩:=aH HS.out.own;subst hov;have FIN:=Lh (HR.out ⟨nm,e,(.slice O1 F'.length O2),F'⟩ 0 (wr.setRow (w.heap.size+1+1) #[.string nm,.int .i64 e,(.slice O1 F'.length O2)]) (by rw[E.out];unfold LyR.pl;dsimp only;rw[Q1.out]) (HS.out.done BX.out.br (.inl rfl)) (BX.out.gr.row2 (show w.heap.size<=w.heap.size+1+1 by omega) _));clear HR HS
     go_wp2_with (first|(refine wpList_load_row rfl 24 _ rfl bo rfl 24 _ _ _ HO.out Tryz.underlying24 rfl (by kernel_rfl) ?_)|(refine wpList_store_row rfl 24 _ _ rfl (w.heap.size+1+1) #[.string nm,.int .i64 e,(.slice O1 F'.length O2)] rfl rfl 24 _ BX.out.br (by kernel_rfl) rfl (by simp[Value.oneCell']) ?_))
     refine bodyPost_ret (v:=.tuple #[.agg #[.string nm,.int .i64 e,(.slice O1 F'.length O2)],.int .i64 0]) ?_ rfl FIN.out;exact aQ rfl _ _ (w.heap.size+1+1) _ _ _ _ rfl (setRow_heap _ _ _ _ _ _ BX.out.br) rfl rfl Tryz.underlying24 (by kernel_rfl)
end Go.Proofs.YtjalimkajcjapaaGreatDoor
