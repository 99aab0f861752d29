/-
  Whole rows: boxes that are read and written whole.
-/
import Derived.Test.YtjcgkhcbdbbdkaaChecked
import Derived.Test.YtjcgkhcbdbbdkaaRL3
import Derived.Laws.Tables
namespace Go.Proofs.Ytjcgkhcbdbbdkaa
open Go.RowKit Go.Lib B

theorem Grow.row {w W : World} (h : Grow w W) {b : Nat} (hb : w.heap.size ≤ b) (cs : Array Value) : Grow w (W.setRow b cs) :=
  ⟨h.os, h.tape, h.output, by rw [setRow_size]; exact h.size, fun k hk => by rw [setRow_other _ _ _ _ (by omega)]; exact h.block k hk⟩
theorem Rd.row {w : World} {S : Nat → Prop} {size n : Nat} {v : Value} {xs : List Value} (h : Rd w S size v n xs) {B : Nat} (hB : ∀ b, S b → b ≠ B) (cs : Array Value) : Rd (w.setRow B cs) S size v n xs :=
  h.keep fun b hb => setRow_other _ _ _ _ (hB b hb)
theorem BigR.row {w : World} {S : Nat → Prop} {v : Value} {z : Int} {k : Nat} (h : BigR w S v z k) {B : Nat} (hB : ∀ b, S b → b ≠ B) (cs : Array Value) : BigR (w.setRow B cs) S v z k := by
  obtain ⟨h1, m, h2, h3⟩ := h
  exact ⟨h1, m, h2, h3.row hB cs⟩
theorem RatR.row {w : World} {S : Nat → Prop} {v : Value} {n d : Int} {k j : Nat} (h : RatR w S v n d k j) {B : Nat} (hB : ∀ b, S b → b ≠ B) (cs : Array Value) : RatR (w.setRow B cs) S v n d k j := by
  obtain ⟨p, A, x, c, p', A', x', c', h1, h2, h3⟩ := h
  exact ⟨p, A, x, c, p', A', x', c', h1, h2.row hB cs, h3.row hB cs⟩
theorem RV.rd.row {r : RV} {w : World} {S : Nat → Prop} {k B : Nat} (h : r.rd w S k) (hB : BoxN w B) (cs : Array Value) : r.rd (w.setRow B cs) S k := by
  obtain ⟨n, d, h1, h2, h3⟩ := h
  exact ⟨n, d, h1, h2, ((h3.away hB).row (fun _ hb => hb.2) cs).into fun _ hb => hb.1⟩
theorem PV.rd.row {r : PV} {w : World} {S : Nat → Prop} {k B : Nat} (h : r.rd w S k) (hB : BoxN w B) (cs : Array Value) : r.rd (w.setRow B cs) S k := ⟨h.1.row hB cs, h.2.row hB cs⟩
theorem BoxN.row {w : World} {B C : Nat} (h : BoxN w B) (hne : B ≠ C) (cs : Array Value) : BoxN (w.setRow C cs) B := by
  obtain ⟨c, t, fr, h1, h2⟩ := h
  exact ⟨c, t, fr, (setRow_other _ _ _ _ hne).trans h1, h2⟩
theorem RV.noint (r : RV) : ∀ (j : Nat) k n, r.cells.toArray[j]? ≠ some (.int k n) := rat_noint _ _ _ _ _ _ _ _
theorem PV.noint (r : PV) : ∀ (j : Nat) k n, r.cells.toArray[j]? ≠ some (.int k n) := pl_noint _ _ _ _ _ _ _ _ _ _ _ _ _ _ _ _
theorem RV.one (r : RV) : (r.cells.toArray.all fun x => x.oneCell') = true := by simp [RV.cells, Value.oneCell']
theorem PV.one (r : PV) : (r.cells.toArray.all fun x => x.oneCell') = true := by simp [PV.cells, Value.oneCell']
def zeroRV : RV := ⟨⟨false, none, 0, 0⟩, ⟨false, none, 0, 0⟩, 0⟩
def zeroPV : PV := ⟨zeroRV, zeroRV⟩
/-- two cells and a slot -/
theorem results_ccs {fn : Func} {p q s : Tmp} {t1 t2 : TypeId} (h : fn.results = #[.cell p t1, .cell q t2, .tmp s]) (tmps : Array Value) (w : World) (g1 g2 : Nat) (c1 c2 : Array Value) (u1 u2 : TypeId) (f1 f2 : Nat × Nat) (d1 d2 : TypeDesc)
    (hp : tmps.getD p undef = .pointer (some ⟨g1, 0, none⟩)) (hg1 : w.heap[g1]? = some (.cells c1 u1 f1))
    (hq : tmps.getD q undef = .pointer (some ⟨g2, 0, none⟩)) (hg2 : w.heap[g2]? = some (.cells c2 u2 f2)) {v : Value} (hv : tmps.getD s undef = v)
    (hd1 : (match d1 with | .struct _ | .array _ _ => true | _ => false) = true) (hd2 : (match d2 with | .struct _ | .array _ _ => true | _ => false) = true) (hu1 : Try.prog.underlying t1 = some d1) (hi1 : (Try.prog.info? t1).map (·.size) = some c1.size)
    (hu2 : Try.prog.underlying t2 = some d2) (hi2 : (Try.prog.info? t2).map (·.size) = some c2.size) :
    (results fn tmps).run Try.prog w = .ok (.tuple #[.agg c1, .agg c2, v]) w := by
  have hp' : tmps[p]?.getD undef = .pointer (some ⟨g1, 0, none⟩) := by simpa using hp
  have hq' : tmps[q]?.getD undef = .pointer (some ⟨g2, 0, none⟩) := by simpa using hq
  have hv' : tmps[s]?.getD undef = v := by simpa using hv
  simp [results, h, hp', hq', hv', asAddr, run_loadVar_row w g1 u1 t1 c1 f1 d1 hg1 hu1 (by cases d1 <;> first | rfl | simp at hd1) hi1, run_loadVar_row w g2 u2 t2 c2 f2 d2 hg2 hu2 (by cases d2 <;> first | rfl | simp at hd2) hi2]
/-- a whole box is read: in a region that draws its order -/
theorem exec_load_row {o : Oper} {a : Act} {w : World} (ty : TypeId) (x : Operand) (ho : o.op = .load ty x)
    (g : Nat) (hx : a.eval x = .pointer (some ⟨g, 0, none⟩)) (t : TypeId) (cs : Array Value) (fr : Nat × Nat) (d : TypeDesc) (hg : w.heap[g]? = some (.cells cs t fr))
    (hd : (match d with | .struct _ | .array _ _ => true | _ => false) = true) (hu : Try.prog.underlying ty = some d) (hi : (Try.prog.info? ty).map (·.size) = some cs.size) :
    (execOp a.eval o).run Try.prog w = .ok (.value (.agg cs)) w := by
  unfold execOp
  simp only [ho, hx, Instr.loadAt, Instr.sureAddr, Sem.run_bind, Sem.run_pure, Result.andThen_ok, run_loadVar_row w g t ty cs fr d hg hu (by cases d <;> first | rfl | simp at hd) hi]
end Go.Proofs.Ytjcgkhcbdbbdkaa
