import Derived.Test.YtfdjdfobhkmlpaaWind3
namespace Go.Proofs.Ytfdjdfobhkmlpaa
open Go.RowKit Go.Shelf
attribute [local go_sem] Oper.semAt_some

theorem grow_keeps {B : Nat} {W W' : World} (hg : Grow W W') : KeepsFrom B W W' :=
  KeepsFrom.of_grownBy (row := none) ⟨hg.os, hg.tape, hg.output, hg.size, fun k hk _ => hg.block k hk⟩ (fun j e => by cases e)
theorem grow_kpE {n₀ Bn : Nat} {W W' : World} (hg : Grow W W') (hn : n₀ ≤ W.heap.size) (hB : Bn < W.heap.size) : KpE n₀ Bn W W' := ⟨hg.mono hn, hg.block Bn hB⟩
theorem grow_blkA {W W' : World} (hg : Grow W W') {B : Nat} {o : Obj} (h : W.heap[B]? = some o) : W'.heap[B]? = some o := (hg.block B (lt_of_block h)).trans h
theorem touch_side {p : Pt} {x : Pt × Pt} (h : touch p x = true) : sideI x.1 x.2 p = 0 := by
  simp only [touch, Bool.and_eq_true, decide_eq_true_eq] at h; exact h.1

theorem al3 (w : World) (o1 o2 o3 : Obj) : (((w.alloc o1).alloc o2).alloc o3).heap[w.heap.size]? = some o1 ∧ (((w.alloc o1).alloc o2).alloc o3).heap[w.heap.size + 1]? = some o2 ∧ (((w.alloc o1).alloc o2).alloc o3).heap[w.heap.size + 2]? = some o3 := by
  refine ⟨blk_alA (blk_alA (heap_alloc_new _ _) _) _, blk_alA ?_ _, ?_⟩
  · have := heap_alloc_new (w.alloc o1) o2
    rw [World.size_alloc] at this
    exact this
  · have := heap_alloc_new ((w.alloc o1).alloc o2) o3
    rw [World.size_alloc, World.size_alloc] at this
    exact this

/-- what a round of Around keeps -/
def AroI (p : Pt) (w : World) (n0 : Nat) (pre : List PP) (W : World) : Prop :=
  (∀ x ∈ pre, touch p x.1 = false) ∧ W.heap[w.heap.size + 1]? = some (.cells #[.int .i64 (sumP (delta p) (pre.map (fun x : PP => x.1)))] 3 (0, 0)) ∧ W.heap[w.heap.size]? = some (.cells p.cells.toArray 36 (0, 0)) ∧
  W.heap[w.heap.size + 2]? = some (.cells #[.bool false] 4 (0, 0)) ∧ Below w.heap.size w W ∧ n0 ≤ W.heap.size
def AroX (p : Pt) (w : World) (c : Code) (pre : List PP) (W : World) : Prop :=
  c = .ret ∧ (∃ x ∈ pre, touch p x.1 = true) ∧ W.heap[w.heap.size + 1]? = some (.cells #[.int .i64 0] 3 (0, 0)) ∧
  W.heap[w.heap.size + 2]? = some (.cells #[.bool false] 4 (0, 0)) ∧ Below w.heap.size w W

end Go.Proofs.Ytfdjdfobhkmlpaa
