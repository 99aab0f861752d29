import Derived.Test.YtjcgkhcbdbbdkaaChecked
import Derived.Test.YtjcgkhcbdbbdkaaTwo
import Derived.Test.YtjcgkhcbdbbdkaaMdLaw
import Derived.Test.YtjcgkhcbdbbdkaaFreeB
namespace Go.Proofs.Ytjcgkhcbdbbdkaa
open Go.RowKit Go.Lib B

/-- two cells of a box are written -/
def st2 (W : World) (b : Nat) (u0 u1 : Value) : World := (W.setCell ⟨b, 0, none⟩ u0).setCell ⟨b, 1, none⟩ u1
theorem st2_same {W : World} {b : Nat} {x0 x1 : Value} {t : TypeId} (h : W.heap[b]? = some (.cells #[x0, x1] t (0, 0))) (u0 u1 : Value) : (st2 W b u0 u1).heap[b]? = some (.cells #[u0, u1] t (0, 0)) := by
  have h1 := blk_set (blk_set h 0 u0) 1 u1
  simpa [st2] using h1
theorem st2_other {W : World} {b c : Nat} (hne : c ≠ b) (u0 u1 : Value) : (st2 W b u0 u1).heap[c]? = W.heap[c]? := by
  simp [st2, World.setCell, Array.getElem?_modify, hne.symm]
theorem BigR.st2 {W : World} {S : Nat → Prop} {v : Value} {z : Int} {k b : Nat} (h : BigR W S v z k) (hb : ∀ b', S b' → b' ≠ b) (u0 u1 : Value) : BigR (st2 W b u0 u1) S v z k := (h.set hb u0).set hb u1
theorem Grow.st2 {w W : World} {b : Nat} (h : Grow w W) (hb : w.heap.size ≤ b) (u0 u1 : Value) : Grow w (st2 W b u0 u1) := grow_set2 hb h u0 u1
theorem BigR.both {w : World} {S : Nat → Prop} {v : Value} {z : Int} {k : Nat} (h : BigR w S v z k) : BigR w (fun b => S b ∧ b < w.heap.size) v z k := by
  obtain ⟨h1, m, h2, h3⟩ := h
  exact ⟨h1, m, h2, h3.both (by decide)⟩

/-- a box that holds a whole number -/
structure NumBox (W : World) (b : Nat) (p : Bool) (A : Option Addr) (n c : Nat) (z : Int) (k : Nat) (S : Nat → Prop) : Prop where
  blk : W.heap[b]? = some (.cells #[.bool p, .slice A n c] 33 (0, 0))
  big : BigR W S (.agg #[.bool p, .slice A n c]) z k
theorem NumBox.gr {W W' : World} {b : Nat} {p : Bool} {A : Option Addr} {n c : Nat} {z : Int} {k : Nat} {S : Nat → Prop} (h : NumBox W b p A n c z k S) (hg : Grow W W') : NumBox W' b p A n c z k S := ⟨grow_blk hg h.blk, h.big.gr hg⟩
theorem NumBox.st2 {W : World} {b b' : Nat} {p : Bool} {A : Option Addr} {n c : Nat} {z : Int} {k : Nat} {S : Nat → Prop} (h : NumBox W b p A n c z k S) (hne : b ≠ b') (hS : ∀ x, S x → x ≠ b') (u0 u1 : Value) : NumBox (st2 W b' u0 u1) b p A n c z k S :=
  ⟨(st2_other hne u0 u1).trans h.blk, h.big.st2 hS u0 u1⟩
theorem NumBox.c0 {W : World} {b : Nat} {p : Bool} {A : Option Addr} {n c : Nat} {z : Int} {k : Nat} {S : Nat → Prop} (h : NumBox W b p A n c z k S) : W.cell? ⟨b, 0, none⟩ = some (.bool p) := cell_of_row _ b 0 _ _ (0, 0) h.blk
theorem NumBox.c1 {W : World} {b : Nat} {p : Bool} {A : Option Addr} {n c : Nat} {z : Int} {k : Nat} {S : Nat → Prop} (h : NumBox W b p A n c z k S) : W.cell? ⟨b, 1, none⟩ = some (.slice A n c) := cell_of_row _ b 1 _ _ (0, 0) h.blk


end Go.Proofs.Ytjcgkhcbdbbdkaa
