import Derived.Test.YteeeeddeacepmaaGreatDoorSlb
import Derived.Laws.OwnMore
namespace Go.Proofs.YteeeeddeacepmaaGreatDoor
set_option maxRecDepth 100000
open Go.RowKit Go.Lib B
end Go.Proofs.YteeeeddeacepmaaGreatDoor
namespace Go.Proofs.YteeeeddeacepmaaGreatDoor
set_option maxRecDepth 100000
open Go.RowKit Go.Lib B
def PVs (l : List PV) : List Value := l.flatMap PV.cells
theorem PVs_app (l m : List PV) : PVs (l ++ m) = PVs l ++ PVs m := List.flatMap_append
theorem el_pl : Elem Tryz.prog 34 44 (.agg #[.bool false, .slice none 0 0, .bool false, .slice none 0 0, .bool false, .slice none 0 0, .bool false, .slice none 0 0]) 8 128 := ⟨by kernel_rfl, by kernel_rfl, rfl, by decide, by decide⟩
end Go.Proofs.YteeeeddeacepmaaGreatDoor
namespace Go.Proofs.YteeeeddeacepmaaGreatDoor
set_option maxRecDepth 100000
open Go.RowKit B
structure PRw where
 v : Value
 l : List PV
theorem BigR.by_ {w w' : World} {S : Nat -> Prop} {v : Value} {z : Int} {k : Nat} {row : Option Nat} (h : BigR w S v z k) (hg : w.grownBy w' row) (hS : ∀ b, S b -> some b ≠ row) : BigR w' S v z k := by
 obtain ⟨h1, m, h2, h3⟩ := h; exact ⟨h1, m, h2, h3.by_ (by decide) hg hS⟩
theorem RV.rd.by_ {r : RV} {w w' : World} {S : Nat -> Prop} {k : Nat} {row : Option Nat} (h : r.rd w S k) (hg : w.grownBy w' row) (hS : ∀ b, S b -> some b ≠ row) : r.rd w' S k := by
 obtain ⟨n, d, h1, h2, p, A, x, c, p', A', x', c', h3, h4, h5⟩ := h; exact ⟨n, d, h1, h2, p, A, x, c, p', A', x', c', h3, h4.by_ hg hS, h5.by_ hg hS⟩
theorem PV.rd.by_ {p : PV} {w w' : World} {S : Nat -> Prop} {k : Nat} {row : Option Nat} (h : p.rd w S k) (hg : w.grownBy w' row) (hS : ∀ b, S b -> some b ≠ row) : p.rd w' S k := ⟨h.1.by_ hg hS, h.2.by_ hg hS⟩
def OffB (pv qv : Value) (b : Nat) : Prop := some b ≠ pv.ownBlock /\ some b ≠ qv.ownBlock
structure RSt (w0 : World) (pv qv : Value) (rows : List PRw) (part : List PV) (W : World) : Prop where
 gr : Grow w0 W
 op : W.ownsRow w0.heap.size 34 1 pv rows.length (rows.map PRw.v)
 oq : W.ownsRow w0.heap.size 44 8 qv part.length (PVs part)
 pq : ∀ k, qv.ownBlock = some k -> pv.ownBlock ≠ some k
 each : ∀ r ∈ rows, Rd W (OffB pv qv) 8 r.v r.l.length (PVs r.l)
 vals : ∀ r ∈ rows, ∀ p ∈ r.l, p.rd W (OffB pv qv) 15
 pvals : ∀ p ∈ part, p.rd W (OffB pv qv) 15
theorem RSt.tr {w0 : World} {pv qv : Value} {rows : List PRw} {part : List PV} {W W' : World} (h : RSt w0 pv qv rows part W) (hg : Grow W W') : RSt w0 pv qv rows part W' :=
 ⟨h.gr.tr hg, own_grow h.op hg, own_grow h.oq hg, h.pq, fun r hr => (h.each r hr).gr2 (by decide) hg, fun r hr p hp => (h.vals r hr p hp).gr hg, fun p hp => (h.pvals p hp).gr hg⟩
theorem RSt.off {w0 : World} {pv qv : Value} {rows : List PRw} {part : List PV} {W : World} (h : RSt w0 pv qv rows part W) {b : Nat} (hb : W.heap.size <= b) : OffB pv qv b :=
 ⟨fun e => by have := (h.op.lt b e.symm).2; omega, fun e => by have := (h.oq.lt b e.symm).2; omega⟩
theorem Fresh.off {W : World} {v v' : Value} {b : Nat} (h : Fresh W v v') (hb : b < W.heap.size) (hv : some b ≠ v.ownBlock) : some b ≠ v'.ownBlock := fun e => h.ne hb (fun e2 => hv e2.symm) e.symm
theorem RSt.put {w0 : World} {pv qv qv' : Value} {rows : List PRw} {part part' : List PV} {W W' : World} (h : RSt w0 pv qv rows part W)
  (hg : W.grownBy W' qv.ownBlock) (ho : W'.ownsRow w0.heap.size 44 8 qv' part'.length (PVs part')) (hf : Fresh W qv qv') (hp : ∀ p ∈ part', p.rd W (OffB pv qv) 15) :
  RSt w0 pv qv' rows part' W' := by
 have pk : pv.ownBlock = none ∨ pv.ownBlock ≠ qv.ownBlock := by
  cases e : pv.ownBlock with
  | none => exact .inl rfl
  | some k => exact .inr fun e2 => h.pq k e2.symm e
 have key : ∀ p : PV, p.rd W (OffB pv qv) 15 -> p.rd W' (OffB pv qv') 15 := fun p hp => ((hp.both).by_ hg (fun b hb => hb.1.2)).into fun b hb => ⟨hb.1.1, hf.off hb.2 hb.1.2⟩
 refine ⟨grow_app h.gr hg (own_ge h.oq), h.op.kept hg pk, ho, ?_, ?_, fun r hr p hp => key p (h.vals r hr p hp), fun p hx => key p (hp p hx)⟩
 ·intro k hk e
  rcases hf with e1 | ⟨j, e1, hj⟩
  ·exact h.pq k (e1.symm.trans hk) e
  ·rw [hk] at e1
   injection e1 with e1
   have := (h.op.lt k e).2; omega
 ·intro r hr
  exact (((h.each r hr).and_lt0 (by decide)).by_ (by decide) hg (fun b hb => hb.1.2)).into fun b hb => ⟨hb.1.1, hf.off hb.2 hb.1.2⟩
theorem RSt.fin {w0 : World} {pv qv pv' : Value} {rows : List PRw} {part : List PV} {W W' : World} (h : RSt w0 pv qv rows part W)
  (hg : W.grownBy W' pv.ownBlock) (ho : W'.ownsRow w0.heap.size 34 1 pv' (rows.length + 1) (rows.map PRw.v ++ [qv])) (hf : Fresh W pv pv') :
  RSt w0 pv' (.slice none 0 0) (rows ++ [⟨qv, part⟩]) [] W' := by
 have nn : ∀ b, some b ≠ (Value.slice none 0 0).ownBlock := fun b => by simp [Value.ownBlock]
 have key : ∀ p : PV, p.rd W (OffB pv qv) 15 -> p.rd W' (OffB pv' (.slice none 0 0)) 15 := fun p hp => ((hp.both).by_ hg (fun b hb => hb.1.1)).into fun b hb => ⟨hf.off hb.2 hb.1.1, nn b⟩
 refine ⟨grow_app h.gr hg (own_ge h.op), own_eq ho (by simp) (by simp), World.ownsRow_nil _ _ _ _, fun k hk => by simp [Value.ownBlock] at hk, ?_, ?_, fun p hp => by simp at hp⟩
 ·intro r hr
  have k1 : Rd W (fun b => some b ≠ pv.ownBlock) 8 r.v r.l.length (PVs r.l) := by
   rcases List.mem_append.1 hr with hr | hr
   ·exact (h.each r hr).into fun b hb => hb.1
   ·rw [List.mem_singleton.1 hr]
    exact (Rd.own h.oq).into fun b hb e => h.pq b hb.symm e.symm
  exact ((k1.and_lt0 (by decide)).by_ (by decide) hg (fun b hb => hb.1)).into fun b hb => ⟨hf.off hb.2 hb.1, nn b⟩
 ·intro r hr p hp
  rcases List.mem_append.1 hr with hr | hr
  ·exact key p (h.vals r hr p hp)
  ·rw [List.mem_singleton.1 hr] at hp
   exact key p (h.pvals p hp)
theorem RSt.new {w0 : World} {pv qv : Value} {rows : List PRw} {part : List PV} {W : World} (h : RSt w0 pv qv rows part W) (p : PV) (hp : p.rd W (OffB pv qv) 15) :
  RSt w0 pv (.slice (some ⟨W.heap.size, 0, none⟩) 1 1) rows [p] (W.alloc (.cells p.cells.toArray 44)) := by
 have gA : Grow W (W.alloc (.cells p.cells.toArray 44)) := (Grow.refl W).al _; have ob : (Value.slice (some ⟨W.heap.size, 0, none⟩) 1 1).ownBlock = some W.heap.size := by simp [Value.ownBlock]
 have nn : ∀ b, b < W.heap.size -> some b ≠ (Value.slice (some ⟨W.heap.size, 0, none⟩) 1 1).ownBlock := fun b hb => by rw [ob]; intro e; injection e with e; omega
 refine ⟨h.gr.tr gA, own_grow h.op gA, ?_, ?_, ?_, ?_, ?_⟩
 ·exact own_eq (World.ownsRow_lit W p.cells.toArray 1 h.gr.size (by decide) rfl) rfl (by simp [PVs])
 ·intro k hk e
  rw [ob] at hk; injection hk with hk
  have := (h.op.lt k e).2; omega
 ·intro r hr
  exact (((h.each r hr).and_lt0 (by decide)).gr2 (by decide) gA).into fun b hb => ⟨hb.1.1, nn b hb.2⟩
 ·intro r hr q hq
  exact ((h.vals r hr q hq).both.gr gA).into fun b hb => ⟨hb.1.1, nn b hb.2⟩
 ·intro q hq
  rw [List.mem_singleton.1 hq]
  exact (hp.both.gr gA).into fun b hb => ⟨hb.1.1, nn b hb.2⟩
def RQ (rows : List PRw) : List (List PtQ) := rows.map fun x => x.l.map PV.q
end Go.Proofs.YteeeeddeacepmaaGreatDoor
