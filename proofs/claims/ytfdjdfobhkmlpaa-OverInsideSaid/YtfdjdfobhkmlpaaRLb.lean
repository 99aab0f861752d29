/-
  The reference's lines, third part: places; At, on. Whole rows: boxes that are read and written whole.
-/
import Derived.Test.YtfdjdfobhkmlpaaChecked
import Derived.Test.YtfdjdfobhkmlpaaLValA
import Derived.Deep.Cut
import Derived.Laws.Tables
namespace Go.Proofs.Ytfdjdfobhkmlpaa
open Go.RowKit Go.Lib B

structure PV where
  x : RV
  y : RV
def PV.cells (p : PV) : List Value := [.bool p.x.nu.p, .slice p.x.nu.A p.x.nu.n p.x.nu.c, .bool p.x.de.p, .slice p.x.de.A p.x.de.n p.x.de.c, .bool p.y.nu.p, .slice p.y.nu.A p.y.nu.n p.y.nu.c, .bool p.y.de.p, .slice p.y.de.A p.y.de.n p.y.de.c]
theorem PV.cells_len (p : PV) : p.cells.length = 8 := rfl
def PV.q (p : PV) : PtQ := ⟨p.x.q, p.y.q⟩
def PV.rd (p : PV) (w : World) (S : Nat → Prop) (k : Nat) : Prop := p.x.rd w S k ∧ p.y.rd w S k
theorem PV.rd.gr {p : PV} {w w' : World} {S : Nat → Prop} {k : Nat} (h : p.rd w S k) (hg : Grow w w') : p.rd w' S k := ⟨h.1.gr hg, h.2.gr hg⟩
theorem PV.rd.into {p : PV} {w : World} {S T : Nat → Prop} {k : Nat} (h : p.rd w S k) (hk : ∀ b, S b → T b) : p.rd w T k := ⟨h.1.into hk, h.2.into hk⟩
theorem PV.rd.up {p : PV} {w : World} {S : Nat → Prop} {k k' : Nat} (h : p.rd w S k) (hk : k ≤ k') : p.rd w S k' := ⟨h.1.up hk, h.2.up hk⟩
theorem PV.rd.both {p : PV} {w : World} {S : Nat → Prop} {k : Nat} (h : p.rd w S k) : p.rd w (fun b => S b ∧ b < w.heap.size) k := ⟨h.1.both, h.2.both⟩
def st8 (W : World) (b : Nat) (u0 u1 u2 u3 u4 u5 u6 u7 : Value) : World := (((((((W.setCell ⟨b, 0, none⟩ u0).setCell ⟨b, 1, none⟩ u1).setCell ⟨b, 2, none⟩ u2).setCell ⟨b, 3, none⟩ u3).setCell ⟨b, 4, none⟩ u4).setCell ⟨b, 5, none⟩ u5).setCell ⟨b, 6, none⟩ u6).setCell ⟨b, 7, none⟩ u7
theorem Grow.st8 {w W : World} {b : Nat} (h : Grow w W) (hb : w.heap.size ≤ b) (u0 u1 u2 u3 u4 u5 u6 u7 : Value) : Grow w (st8 W b u0 u1 u2 u3 u4 u5 u6 u7) :=
  (((((((h.set (p := ⟨b, 0, none⟩) hb u0).set (p := ⟨b, 1, none⟩) hb u1).set (p := ⟨b, 2, none⟩) hb u2).set (p := ⟨b, 3, none⟩) hb u3).set (p := ⟨b, 4, none⟩) hb u4).set (p := ⟨b, 5, none⟩) hb u5).set (p := ⟨b, 6, none⟩) hb u6).set (p := ⟨b, 7, none⟩) hb u7
theorem st8_other {W : World} {b c : Nat} (hne : c ≠ b) (u0 u1 u2 u3 u4 u5 u6 u7 : Value) : (st8 W b u0 u1 u2 u3 u4 u5 u6 u7).heap[c]? = W.heap[c]? := by
  simp [st8, World.setCell, Array.getElem?_modify, hne.symm]
theorem st8_size (W : World) (b : Nat) (u0 u1 u2 u3 u4 u5 u6 u7 : Value) : (st8 W b u0 u1 u2 u3 u4 u5 u6 u7).heap.size = W.heap.size := by
  simp [st8, World.setCell]
theorem RV.rd.st8 {r : RV} {W : World} {S : Nat → Prop} {k B : Nat} (h : r.rd W S k) (hB : BoxN W B) (a : Bool) (b : Value) (c : Bool) (d : Value) (a' : Bool) (b' : Value) (c' : Bool) (d' : Value) (hb : ∀ k n, b ≠ .int k n) (hd : ∀ k n, d ≠ .int k n) (hb' : ∀ k n, b' ≠ .int k n) (hd' : ∀ k n, d' ≠ .int k n) :
    r.rd (st8 W B (.bool a) b (.bool c) d (.bool a') b' (.bool c') d') S k := by
  have n1 : ∀ (x : Bool) k n, Value.bool x ≠ .int k n := fun _ _ _ e => by cases e
  have b1 := hB.set B 0 (n1 a)
  have b2 := b1.set B 1 hb
  have b3 := b2.set B 2 (n1 c)
  have b4 := b3.set B 3 hd
  have b5 := b4.set B 4 (n1 a')
  have b6 := b5.set B 5 hb'
  have b7 := b6.set B 6 (n1 c')
  have _ := hd'
  exact (((((((h.put hB _).put b1 _).put b2 _).put b3 _).put b4 _).put b5 _).put b6 _).put b7 _
theorem BoxN.st8 {W : World} {B : Nat} (h : BoxN W B) (C : Nat) (a : Bool) (b : Value) (c : Bool) (d : Value) (a' : Bool) (b' : Value) (c' : Bool) (d' : Value) (hb : ∀ k n, b ≠ .int k n) (hd : ∀ k n, d ≠ .int k n) (hb' : ∀ k n, b' ≠ .int k n) (hd' : ∀ k n, d' ≠ .int k n) :
    BoxN (st8 W C (.bool a) b (.bool c) d (.bool a') b' (.bool c') d') B := by
  have n1 : ∀ (x : Bool) k n, Value.bool x ≠ .int k n := fun _ _ _ e => by cases e
  exact (((((((h.set C 0 (n1 a)).set C 1 hb).set C 2 (n1 c)).set C 3 hd).set C 4 (n1 a')).set C 5 hb').set C 6 (n1 c')).set C 7 hd'
theorem pl_noint (p : Bool) (A : Option Addr) (x c : Nat) (p' : Bool) (A' : Option Addr) (x' c' : Nat) (q : Bool) (B : Option Addr) (y d : Nat) (q' : Bool) (B' : Option Addr) (y' d' : Nat) : ∀ (j : Nat) k n, (#[Value.bool p, .slice A x c, .bool p', .slice A' x' c', .bool q, .slice B y d, .bool q', .slice B' y' d'] : Array Value)[j]? ≠ some (.int k n) := by
  intro j k n h
  rcases j with _ | _ | _ | _ | _ | _ | _ | _ | j <;> simp at h
theorem divone (n : Int) : ((n : Int) : Rat) / ((1 : Int) : Rat) = (n : Rat) := by
  have : ((1 : Int) : Rat) = 1 := rfl
  grind
end Go.Proofs.Ytfdjdfobhkmlpaa

namespace Go.Proofs.Ytfdjdfobhkmlpaa
open Go.RowKit Go.Lib B

theorem Grow.row {w W : World} (h : Grow w W) {b : Nat} (hb : w.heap.size ≤ b) (cs : Array Value) : Grow w (W.setRow b cs) :=
  ⟨h.os, h.tape, h.output, by rw [setRow_size]; exact h.size, fun k hk => by rw [setRow_other _ _ _ _ (by omega)]; exact h.block k hk⟩
theorem Rd.row {w : World} {S : Nat → Prop} {size n : Nat} {v : Value} {xs : List Value} (h : Rd w S size v n xs) {B : Nat} (hB : ∀ b, S b → b ≠ B) (cs : Array Value) : Rd (w.setRow B cs) S size v n xs :=
  h.keep fun b hb => setRow_other _ _ _ _ (hB b hb)
theorem BigR.row {w : World} {S : Nat → Prop} {v : Value} {z : Int} {k : Nat} (h : BigR w S v z k) {B : Nat} (hB : ∀ b, S b → b ≠ B) (cs : Array Value) : BigR (w.setRow B cs) S v z k := by
  obtain ⟨h1, m, h2, h3⟩ := h
  exact ⟨h1, m, h2, h3.row hB cs⟩
theorem RatR.row {w : World} {S : Nat → Prop} {v : Value} {n d : Int} {k j : Nat} (h : RatR w S v n d k j) {B : Nat} (hB : ∀ b, S b → b ≠ B) (cs : Array Value) : RatR (w.setRow B cs) S v n d k j := by
  obtain ⟨p, A, x, c, p', A', x', c', h1, h2, h3⟩ := h
  exact ⟨p, A, x, c, p', A', x', c', h1, h2.row hB cs, h3.row hB cs⟩
theorem RV.rd.row {r : RV} {w : World} {S : Nat → Prop} {k B : Nat} (h : r.rd w S k) (hB : BoxN w B) (cs : Array Value) : r.rd (w.setRow B cs) S k := by
  obtain ⟨n, d, h1, h2, h3⟩ := h
  exact ⟨n, d, h1, h2, ((h3.away hB).row (fun _ hb => hb.2) cs).into fun _ hb => hb.1⟩
theorem PV.rd.row {r : PV} {w : World} {S : Nat → Prop} {k B : Nat} (h : r.rd w S k) (hB : BoxN w B) (cs : Array Value) : r.rd (w.setRow B cs) S k := ⟨h.1.row hB cs, h.2.row hB cs⟩
theorem BoxN.row {w : World} {B C : Nat} (h : BoxN w B) (hne : B ≠ C) (cs : Array Value) : BoxN (w.setRow C cs) B := by
  obtain ⟨c, t, fr, h1, h2⟩ := h
  exact ⟨c, t, fr, (setRow_other _ _ _ _ hne).trans h1, h2⟩
theorem RV.noint (r : RV) : ∀ (j : Nat) k n, r.cells.toArray[j]? ≠ some (.int k n) := rat_noint _ _ _ _ _ _ _ _
theorem PV.noint (r : PV) : ∀ (j : Nat) k n, r.cells.toArray[j]? ≠ some (.int k n) := pl_noint _ _ _ _ _ _ _ _ _ _ _ _ _ _ _ _
theorem RV.one (r : RV) : (r.cells.toArray.all fun x => x.oneCell') = true := by simp [RV.cells, Value.oneCell']
theorem PV.one (r : PV) : (r.cells.toArray.all fun x => x.oneCell') = true := by simp [PV.cells, Value.oneCell']
def zeroRV : RV := ⟨⟨false, none, 0, 0⟩, ⟨false, none, 0, 0⟩, 0⟩
def zeroPV : PV := ⟨zeroRV, zeroRV⟩
/-- two cells and a slot -/
theorem results_ccs {fn : Func} {p q s : Tmp} {t1 t2 : TypeId} (h : fn.results = #[.cell p t1, .cell q t2, .tmp s]) (tmps : Array Value) (w : World) (g1 g2 : Nat) (c1 c2 : Array Value) (u1 u2 : TypeId) (f1 f2 : Nat × Nat) (d1 d2 : TypeDesc)
    (hp : tmps.getD p undef = .pointer (some ⟨g1, 0, none⟩)) (hg1 : w.heap[g1]? = some (.cells c1 u1 f1))
    (hq : tmps.getD q undef = .pointer (some ⟨g2, 0, none⟩)) (hg2 : w.heap[g2]? = some (.cells c2 u2 f2)) {v : Value} (hv : tmps.getD s undef = v)
    (hd1 : (match d1 with | .struct _ | .array _ _ => true | _ => false) = true) (hd2 : (match d2 with | .struct _ | .array _ _ => true | _ => false) = true) (hu1 : Try.prog.underlying t1 = some d1) (hi1 : (Try.prog.info? t1).map (·.size) = some c1.size)
    (hu2 : Try.prog.underlying t2 = some d2) (hi2 : (Try.prog.info? t2).map (·.size) = some c2.size) :
    (results fn tmps).run Try.prog w = .ok (.tuple #[.agg c1, .agg c2, v]) w := by
  have hp' : tmps[p]?.getD undef = .pointer (some ⟨g1, 0, none⟩) := by simpa using hp
  have hq' : tmps[q]?.getD undef = .pointer (some ⟨g2, 0, none⟩) := by simpa using hq
  have hv' : tmps[s]?.getD undef = v := by simpa using hv
  simp [results, h, hp', hq', hv', asAddr, run_loadVar_row w g1 u1 t1 c1 f1 d1 hg1 hu1 (by cases d1 <;> first | rfl | simp at hd1) hi1, run_loadVar_row w g2 u2 t2 c2 f2 d2 hg2 hu2 (by cases d2 <;> first | rfl | simp at hd2) hi2]
/-- a whole box is read: in a region that draws its order -/
theorem exec_load_row {o : Oper} {a : Act} {w : World} (ty : TypeId) (x : Operand) (ho : o.op = .load ty x)
    (g : Nat) (hx : a.eval x = .pointer (some ⟨g, 0, none⟩)) (t : TypeId) (cs : Array Value) (fr : Nat × Nat) (d : TypeDesc) (hg : w.heap[g]? = some (.cells cs t fr))
    (hd : (match d with | .struct _ | .array _ _ => true | _ => false) = true) (hu : Try.prog.underlying ty = some d) (hi : (Try.prog.info? ty).map (·.size) = some cs.size) :
    (execOp a.eval o).run Try.prog w = .ok (.value (.agg cs)) w := by
  unfold execOp
  simp only [ho, hx, Instr.loadAt, Instr.sureAddr, Sem.run_bind, Sem.run_pure, Result.andThen_ok, run_loadVar_row w g t ty cs fr d hg hu (by cases d <;> first | rfl | simp at hd) hi]
end Go.Proofs.Ytfdjdfobhkmlpaa
