/-
  A box of the call's own: a block of cells that the walk may write. No program is named here.
-/
import Derived.Test.YtjcgkhcbdbbdkaaBase
import Derived.OneCell
namespace Go.Proofs.Ytjcgkhcbdbbdkaa
open Go.RowKit

/-- Since w0 the world has only grown, and block bb (laid since) holds the cells cs, unmarked. -/
def BoxH (w0 : World) (bb : Nat) (cs : Array Value) (t : TypeId) (W : World) : Prop := Grow w0 W ∧ w0.heap.size ≤ bb ∧ W.heap[bb]? = some (.cells cs t (0, 0))
theorem BoxH.grow {w0 W : World} {bb : Nat} {cs : Array Value} {t : TypeId} (h : BoxH w0 bb cs t W) : Grow w0 W := h.1
theorem BoxH.lt {w0 W : World} {bb : Nat} {cs : Array Value} {t : TypeId} (h : BoxH w0 bb cs t W) : bb < W.heap.size := lt_of_block h.2.2
theorem BoxH.cell {w0 W : World} {bb : Nat} {cs : Array Value} {t : TypeId} (h : BoxH w0 bb cs t W) (j : Nat) : W.cell? ⟨bb, j, none⟩ = cs[j]? := cell_of_row W bb j cs t (0, 0) h.2.2
theorem BoxH.free {w0 W : World} {bb : Nat} {cs : Array Value} {t : TypeId} (h : BoxH w0 bb cs t W) (j : Nat) : W.frozen? ⟨bb, j, none⟩ = false := frozen_of_row W bb j cs t h.2.2
theorem BoxH.tr {w0 W W' : World} {bb : Nat} {cs : Array Value} {t : TypeId} (h : BoxH w0 bb cs t W) (hg : Grow W W') : BoxH w0 bb cs t W' := ⟨h.1.tr hg, h.2.1, (hg.block bb h.lt).trans h.2.2⟩
theorem BoxH.laid {w0 w : World} (cs : Array Value) (t : TypeId) (h : Grow w0 w) : BoxH w0 w.heap.size cs t (w.alloc (.cells cs t)) := ⟨h.al _, h.size, heap_alloc_new w _⟩
theorem BoxH.set {w0 W : World} {bb : Nat} {cs : Array Value} {t : TypeId} (h : BoxH w0 bb cs t W) (j : Nat) (v : Value) : BoxH w0 bb (cs.setIfInBounds j v) t (W.setCell ⟨bb, j, none⟩ v) := by
  refine ⟨h.1.set (p := ⟨bb, j, none⟩) h.2.1 v, h.2.1, ?_⟩
  simp [World.setCell, Array.getElem?_modify, h.2.2]
theorem BoxH.by_ {w0 W W' : World} {bb : Nat} {cs : Array Value} {t : TypeId} {row : Option Nat} (h : BoxH w0 bb cs t W) (hg : W.grownBy W' row) (hw : ∀ k, row = some k → w0.heap.size ≤ k) (hne : some bb ≠ row) : BoxH w0 bb cs t W' :=
  ⟨grow_app h.1 hg hw, h.2.1, (hg.block bb h.lt hne).trans h.2.2⟩
theorem BoxH.base {w0 w1 W : World} {bb : Nat} {cs : Array Value} {t : TypeId} (h : BoxH w1 bb cs t W) (hg : Grow w0 w1) : BoxH w0 bb cs t W := ⟨hg.tr h.1, Nat.le_trans hg.size h.2.1, h.2.2⟩

/-- 'wpList_new', where the slot spells the new block's number in its own way. -/
theorem wpList_newAt {P : Program} {w : World} {t e : TypeId} {z : Value} {size bytes : Nat} {w0 : World} {ops : Array Oper} {rest : List Oper} {o : Oper} {a : Act} {Q : Exit → Act → World → Prop} (hgd : o.guard = none) (s x : Operand)
    (ho : o.op = .call { callee := .builtin .append, args := #[s, x], argTypes := #[t, t] })
    (E : Elem P t e z size bytes) {base : Nat} {v : Value} {n : Nat} {xs : List Value} (hown : w.ownsRow base e size v n xs) (hs : a.eval s = v)
    (m g : Nat) (hgz : w.heap.size = g) (cs : Array Value) (hx : a.eval x = .slice (some ⟨g, 0, none⟩) m m) (hm : m ≤ 16) (hcs : cs.size = m * size) (h1 : ∀ u ∈ cs.toList, u.oneCell' = true)
    (hn : (n + m) * bytes ≤ 140737488355328) (hg : Grow w0 w) (hbase : w0.heap.size ≤ base ∧ base ≤ w.heap.size)
    (h : ∀ v' w', w'.ownsRow base e size v' (n + m) (xs ++ cs.toList) → Grow w0 w' → w.grownBy w' v.ownBlock → (v'.ownBlock = v.ownBlock ∨ v'.ownBlock = some (w.heap.size + 1)) → wpList P ops Q rest (a.put o.dst v') w') :
    wpList P ops Q (o :: rest) a (w.alloc (.cells cs e)) := by
  subst hgz
  exact wpList_new hgd s x ho E hown hs m cs hx hm hcs h1 hn hg hbase h
theorem BoxH.other {w0 W : World} {bb cc j : Nat} {cs : Array Value} {t : TypeId} {v : Value} (h : BoxH w0 bb cs t W) (hne : bb ≠ cc) (hcc : w0.heap.size ≤ cc) : BoxH w0 bb cs t (W.setCell ⟨cc, j, none⟩ v) := by
  refine ⟨h.1.set (p := ⟨cc, j, none⟩) hcc v, h.2.1, ?_⟩
  have h2 := h.2.2
  simp [World.setCell, Array.getElem?_modify, h2, hne.symm]
theorem own_slice {w : World} {base e size n : Nat} {v : Value} {xs : List Value} (h : w.ownsRow base e size v n xs) : ∃ A c, v = .slice A n c := by
  obtain ⟨_, A, c, h, _⟩ := Rd.own h
  exact ⟨A, c, h⟩
theorem own_set {w : World} {base e size n bb j : Nat} {v u : Value} {xs : List Value} (h : w.ownsRow base e size v n xs) (hne : v.ownBlock ≠ some bb) : (w.setCell ⟨bb, j, none⟩ u).ownsRow base e size v n xs := ownsRow_setCell_other h (a := ⟨bb, j, none⟩) hne u
theorem ins_ne {w : World} {wb : Nat} {v v' : Value} (h : v.ownBlock ≠ some wb) (hlt : wb < w.heap.size) (hb : v'.ownBlock = v.ownBlock ∨ v'.ownBlock = some (w.heap.size + 1)) : v'.ownBlock ≠ some wb := by
  rcases hb with hb | hb
  · rw [hb]; exact h
  · rw [hb]
    intro e
    injection e with e
    omega
theorem size_setCell (w : World) (a : Addr) (v : Value) : (w.setCell a v).heap.size = w.heap.size := by simp [World.setCell]
end Go.Proofs.Ytjcgkhcbdbbdkaa
