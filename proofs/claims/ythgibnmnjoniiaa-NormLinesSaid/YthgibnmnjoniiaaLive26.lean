import Derived.Test.YthgibnmnjoniiaaChecked
import Derived.Test.YthgibnmnjoniiaaBase
import Derived.Test.YthgibnmnjoniiaaPts
import Derived.Test.YthgibnmnjoniiaaNorm
import Derived.Test.YthgibnmnjoniiaaSimp
namespace Go.Proofs.Ythgibnmnjoniiaa
open Go.RowKit Go.Lib B

set_option maxRecDepth 100000 in
set_option maxHeartbeats 1000000 in
theorem live26_any (w : World) {R : Ending → World → Prop} (hR : ∀ w', Grow w w' → R (.returned (.bool true)) w') :
    Calls Try.prog 18 #[] w R := by
  have HR := Lib.hid hR
  clear hR
  have hs : simple [⟨0, 0⟩, ⟨0, 0⟩, ⟨1, 0⟩, ⟨0, 0⟩] true = [⟨0, 0⟩, ⟨1, 0⟩] := by decide
  go_enter Try.func18, Try.ntmps18
  go_wp2_with fail
  refine simple_any [⟨0, 0⟩, ⟨0, 0⟩, ⟨1, 0⟩, ⟨0, 0⟩] true _ (fun b => b = w.heap.size) _ (Rd.laid (w := w) (size := 2) #[.int .i64 0, .int .i64 0, .int .i64 0, .int .i64 0, .int .i64 1, .int .i64 0, .int .i64 0, .int .i64 0] 24 (0, 0) 4 (by decide) rfl (Grow.refl _)) (by simp) ?_
  intro r1 w1 hown1 hg1
  rw [hs] at hown1
  have HG1 := Lib.hid hg1
  have HO1 := Lib.hid hown1
  clear hg1 hown1 hs
  go_wp2_with fail
  refine samePts_any r1 _ [⟨0, 0⟩, ⟨1, 0⟩] [⟨0, 0⟩, ⟨1, 0⟩] _ (fun b => b = w1.heap.size) _ (Rd.own (HO1.out.alloc _)) (Rd.laid (w := w1) (size := 2) #[.int .i64 0, .int .i64 0, .int .i64 1, .int .i64 0] 24 (0, 0) 2 (by decide) rfl (Grow.refl _)) ?_
  intro w2 hg2
  go_wp2
  exact HR.out _ (((((Grow.refl w).al _).tr HG1.out).al _).tr hg2)

end Go.Proofs.Ythgibnmnjoniiaa
