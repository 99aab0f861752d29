import Derived.Test.YteeeeddeacepmaaGreatDoorRLc
import Derived.Deep.MidRow
namespace Go.Proofs.YteeeeddeacepmaaGreatDoor
set_option maxRecDepth 100000
open Go.RowKit Go.Lib B
def PV.turn (p : PV) : PV := ⟨p.y, p.x⟩
def PtQ.turn (p : PtQ) : PtQ := ⟨p.y, p.x⟩
theorem PV.rd.turn {p : PV} {w : World} {S : Nat -> Prop} {k : Nat} (h : p.rd w S k) : p.turn.rd w S k := ⟨h.2, h.1⟩
theorem PV.at_ {p : PV} {W : World} {b : Nat} {t : TypeId} {fr : Nat × Nat} (h : W.heap[b]? = some (.cells p.cells.toArray t fr)) :
  W.cell? ⟨b, 0, none⟩ = some (.bool p.x.nu.p) /\ W.cell? ⟨b, 1, none⟩ = some (.slice p.x.nu.A p.x.nu.n p.x.nu.c) /\ W.cell? ⟨b, 2, none⟩ = some (.bool p.x.de.p) /\ W.cell? ⟨b, 3, none⟩ = some (.slice p.x.de.A p.x.de.n p.x.de.c) /\
  W.cell? ⟨b, 4, none⟩ = some (.bool p.y.nu.p) /\ W.cell? ⟨b, 5, none⟩ = some (.slice p.y.nu.A p.y.nu.n p.y.nu.c) /\ W.cell? ⟨b, 6, none⟩ = some (.bool p.y.de.p) /\ W.cell? ⟨b, 7, none⟩ = some (.slice p.y.de.A p.y.de.n p.y.de.c) := by
 refine ⟨?_, ?_, ?_, ?_, ?_, ?_, ?_, ?_⟩ <;> (rw [cell_of_row _ _ _ _ _ _ h]; rfl)
def inQ (x : Rat) (c : Int) (ab : Bool) : Bool := if ab = true then decide ((c : Rat) <= x) else decide (x <= (c : Rat))
def crossQ (p q : PtQ) (c : Int) : PtQ := ⟨(c : Rat), p.y + ((c : Rat) - p.x) / (q.x - p.x) * (q.y - p.y)⟩
end Go.Proofs.YteeeeddeacepmaaGreatDoor
namespace Go.Proofs.YteeeeddeacepmaaGreatDoor
set_option maxRecDepth 100000
open Go.RowKit B
def half1Q (c : Int) (up ab : Bool) (p q : PtQ) : List PtQ :=
 if up = true then ((if inQ p.turn.x c ab = true then [p.turn] else []) ++ (if inQ p.turn.x c ab ≠ inQ q.turn.x c ab then [crossQ p.turn q.turn c] else [])).map PtQ.turn
 else (if inQ p.x c ab = true then [p] else []) ++ (if inQ p.x c ab ≠ inQ q.x c ab then [crossQ p q c] else [])
def halfQ (c : Int) (up ab : Bool) (l : List PtQ) : List PtQ := cycTo (half1Q c up ab) l l.length
structure HSt (w0 : World) (ov av : Value) (out add : List PV) (K : Nat) (W : World) : Prop where
 gr : Grow w0 W
 oo : W.ownsRow w0.heap.size 44 8 ov out.length (PVs out)
 oa : W.ownsRow w0.heap.size 44 8 av add.length (PVs add)
 ne : ∀ k, av.ownBlock = some k -> ov.ownBlock ≠ some k
 vo : ∀ p ∈ out, p.rd W (OffB ov av) K
 va : ∀ p ∈ add, p.rd W (OffB ov av) K
theorem HSt.tr {w0 : World} {ov av : Value} {out add : List PV} {K : Nat} {W W' : World} (h : HSt w0 ov av out add K W) (hg : Grow W W') : HSt w0 ov av out add K W' :=
 ⟨h.gr.tr hg, own_grow h.oo hg, own_grow h.oa hg, h.ne, fun p hp => (h.vo p hp).gr hg, fun p hp => (h.va p hp).gr hg⟩
theorem HSt.off {w0 : World} {ov av : Value} {out add : List PV} {K : Nat} {W : World} (h : HSt w0 ov av out add K W) {b : Nat} (hb : W.heap.size <= b) : OffB ov av b :=
 ⟨fun e => by have := (h.oo.lt b e.symm).2; omega, fun e => by have := (h.oa.lt b e.symm).2; omega⟩
theorem HSt.pout {w0 : World} {ov av ov' : Value} {out out' add : List PV} {K : Nat} {W W' : World} (h : HSt w0 ov av out add K W)
  (hg : W.grownBy W' ov.ownBlock) (ho : W'.ownsRow w0.heap.size 44 8 ov' out'.length (PVs out')) (hf : Fresh W ov ov') (hx : ∀ p ∈ out', p.rd W (OffB ov av) K) : HSt w0 ov' av out' add K W' := by
 have pk : av.ownBlock = none ∨ av.ownBlock ≠ ov.ownBlock := by
  cases e : av.ownBlock with
  | none => exact .inl rfl
  | some k => exact .inr fun e2 => h.ne k e e2.symm
 have key : ∀ p : PV, p.rd W (OffB ov av) K -> p.rd W' (OffB ov' av) K := fun p hp => ((hp.both).by_ hg (fun b hb => hb.1.1)).into fun b hb => ⟨hf.off hb.2 hb.1.1, hb.1.2⟩
 refine ⟨grow_app h.gr hg (own_ge h.oo), ho, h.oa.kept hg pk, ?_, fun p hp => key p (hx p hp), fun p hp => key p (h.va p hp)⟩; intro k hk e
 rcases hf with e1 | ⟨j, e1, hj⟩
 ·exact h.ne k hk (e1.symm.trans e)
 ·rw [e] at e1
  injection e1 with e1
  have := (h.oa.lt k hk).2; omega
end Go.Proofs.YteeeeddeacepmaaGreatDoor
namespace Go.Proofs.YteeeeddeacepmaaGreatDoor
set_option maxRecDepth 100000
open Go.RowKit B
theorem PV.mid {l : List PV} {w wr : World} {b o : Nat} (hw : Grow w wr) (hb : b < w.heap.size) (hc : ∀ j u, (PVs l)[j]? = some u -> w.cell? ⟨b, o + j, none⟩ = some u) {i : Nat} (hi : i < l.length) :
  wr.cell? ⟨b, o + i * 8, none⟩ = some (.bool l[i].x.nu.p) /\ wr.cell? ⟨b, o + i * 8 + 1, none⟩ = some (.slice l[i].x.nu.A l[i].x.nu.n l[i].x.nu.c) /\ wr.cell? ⟨b, o + i * 8 + 2, none⟩ = some (.bool l[i].x.de.p) /\ wr.cell? ⟨b, o + i * 8 + 3, none⟩ = some (.slice l[i].x.de.A l[i].x.de.n l[i].x.de.c) /\
  wr.cell? ⟨b, o + i * 8 + 4, none⟩ = some (.bool l[i].y.nu.p) /\ wr.cell? ⟨b, o + i * 8 + 5, none⟩ = some (.slice l[i].y.nu.A l[i].y.nu.n l[i].y.nu.c) /\ wr.cell? ⟨b, o + i * 8 + 6, none⟩ = some (.bool l[i].y.de.p) /\ wr.cell? ⟨b, o + i * 8 + 7, none⟩ = some (.slice l[i].y.de.A l[i].y.de.n l[i].y.de.c) := by
 have e := flat_cells PV.cells_len hw hb hc hi; exact ⟨e 0 _ rfl, e 1 _ rfl, e 2 _ rfl, e 3 _ rfl, e 4 _ rfl, e 5 _ rfl, e 6 _ rfl, e 7 _ rfl⟩
theorem fold_cells (p : PV) : (List.foldl (fun (cs : Array Value) (x : Value × Nat) => cs.setIfInBounds x.snd x.fst) #[Value.bool false, .slice none 0 0, .bool false, .slice none 0 0, .bool false, .slice none 0 0, .bool false, .slice none 0 0] p.cells.zipIdx).toList = p.cells := rfl
end Go.Proofs.YteeeeddeacepmaaGreatDoor
namespace Go.Proofs.YteeeeddeacepmaaGreatDoor
set_option maxRecDepth 100000
open Go.RowKit B
def clip25Q (l : List Pt) (lo hi : Int) : List PtQ := halfQ hi true false (halfQ lo true true (halfQ hi false false (halfQ lo false true (l.map Pt.pq))))
end Go.Proofs.YteeeeddeacepmaaGreatDoor
