import Derived.Test.YtfdjdfobhkmlpaaChecked
import Derived.Test.YtfdjdfobhkmlpaaCore
import Derived.Test.YtfdjdfobhkmlpaaPts0
import Derived.Test.YtfdjdfobhkmlpaaFracW
namespace Go.Proofs.Ytfdjdfobhkmlpaa
open Go.RowKit

def Pt.far (p : Pt) : Bool := !inw p.x || !inw p.y
def Pt.inside (p : Pt) (lo hi : Int) : Bool := decide (lo ≤ p.x) && decide (p.x ≤ hi) && decide (lo ≤ p.y) && decide (p.y ≤ hi)

set_option maxRecDepth 100000 in
set_option maxHeartbeats 1000000 in
theorem inside_any (p : Pt) (lo hi : Int) (w : World) {R : Ending → World → Prop} (hR : ∀ w', Grow w w' → R (.returned (.bool (p.inside lo hi))) w') : Calls Try.prog 9 #[.agg p.cells.toArray, .int .i64 lo, .int .i64 hi] w R := by
  obtain ⟨x, y⟩ := p
  have HR : ∀ b w', (Pt.inside ⟨x, y⟩ lo hi) = b → Grow w w' → R (.returned (.bool b)) w' := by rintro b w' rfl h; exact hR _ h
  have HR := Lib.hid HR
  clear hR
  unfold Pt.cells
  dsimp only
  cases h1 : decide (lo ≤ x)
  · go_enter Try.func9, Try.ntmps9
    go_wp2
    refine HR.out _ _ (by simp [Pt.inside, h1]) ((Grow.refl w).al _)
  · cases h2 : decide (x ≤ hi)
    · go_enter Try.func9, Try.ntmps9
      go_wp2
      refine HR.out _ _ (by simp [Pt.inside, h1, h2]) ((Grow.refl w).al _)
    · cases h3 : decide (lo ≤ y)
      · go_enter Try.func9, Try.ntmps9
        go_wp2
        refine HR.out _ _ (by simp [Pt.inside, h1, h2, h3]) ((Grow.refl w).al _)
      · go_enter Try.func9, Try.ntmps9
        go_wp2
        refine HR.out _ _ (by simp [Pt.inside, h1, h2, h3]) ((Grow.refl w).al _)

def Fr.btw (f : Fr) (lo hi : Int) : Bool := f.right && decide (lo ≤ f.q) && (decide (f.q < hi) || (f.q == hi && f.r == 0))
