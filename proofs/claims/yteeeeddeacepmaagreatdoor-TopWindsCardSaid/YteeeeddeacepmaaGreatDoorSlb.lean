import Derived.Test.YteeeeddeacepmaaGreatDoorRLb
namespace Go.Proofs.YteeeeddeacepmaaGreatDoor
set_option maxRecDepth 100000
open Go.RowKit B
structure SlS (w : World) (S : Nat -> Prop) (k : Nat) (W : World) (ba bb r0 r1 : Nat) (a b c d : RV) : Prop where
 gr : Grow w W
 A : W.heap[ba]? = some (.cells a.cells.toArray 42 (0, 0))
 B : W.heap[bb]? = some (.cells b.cells.toArray 42 (0, 0))
 C : W.heap[r0]? = some (.cells c.cells.toArray 42 (0, 0))
 D : W.heap[r1]? = some (.cells d.cells.toArray 42 (0, 0))
 ra : a.rd W S k
 rb : b.rd W S k
section
variable {w W W' : World} {S : Nat -> Prop} {k ba bb r0 r1 : Nat} {a b c d s : RV}
theorem SlS.tr (h : SlS w S k W ba bb r0 r1 a b c d) (hg : Grow W W') : SlS w S k W' ba bb r0 r1 a b c d :=
 ⟨h.gr.tr hg, grow_blk hg h.A, grow_blk hg h.B, grow_blk hg h.C, grow_blk hg h.D, h.ra.gr hg, h.rb.gr hg⟩
end
end Go.Proofs.YteeeeddeacepmaaGreatDoor
