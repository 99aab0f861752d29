import Derived.Test.YtjcgkhcbdbbdkaaChecked
import Derived.Test.YtjcgkhcbdbbdkaaCore
import Derived.Test.YtjcgkhcbdbbdkaaPts0
import Derived.Test.YtjcgkhcbdbbdkaaFracW
namespace Go.Proofs.Ytjcgkhcbdbbdkaa
open Go.RowKit

def Pt.far (p : Pt) : Bool := !inw p.x || !inw p.y
def Pt.inside (p : Pt) (lo hi : Int) : Bool := decide (lo ≤ p.x) && decide (p.x ≤ hi) && decide (lo ≤ p.y) && decide (p.y ≤ hi)

set_option maxRecDepth 100000 in
set_option maxHeartbeats 1000000 in
theorem pfar_any (p : Pt) (w : World) {R : Ending → World → Prop} (hR : ∀ w', Grow w w' → R (.returned (.bool p.far)) w') : Calls Try.prog 36 #[.agg p.cells.toArray] w R := by
  obtain ⟨x, y⟩ := p
  have HR : ∀ b w', (Pt.far ⟨x, y⟩) = b → Grow w w' → R (.returned (.bool b)) w' := by rintro b w' rfl h; exact hR _ h
  have HR := Lib.hid HR
  clear hR
  have HI := Lib.hid fun W (R : Ending → World → Prop) hR => far_any x W (R := R) hR
  have HJ := Lib.hid fun W (R : Ending → World → Prop) hR => far_any y W (R := R) hR
  unfold Pt.cells
  dsimp only
  cases hq : inw x
  · rw [hq] at HI
    have hq := Lib.hid hq
    go_enter Try.func36, Try.ntmps36
    go_wp2_with (go_at_call 43; refine HI.out _ _ ?_)
    refine HR.out _ _ (by simp [Pt.far, hq.out]) ((Grow.refl w).al _)
  · rw [hq] at HI
    have hq := Lib.hid hq
    go_enter Try.func36, Try.ntmps36
    go_wp2_with (go_at_call 43; first | (refine HI.out _ _ ?_) | (refine HJ.out _ _ ?_))
    refine HR.out _ _ (by simp [Pt.far, hq.out]) ((Grow.refl w).al _)

set_option maxRecDepth 100000 in
set_option maxHeartbeats 1000000 in
theorem inside_any (p : Pt) (lo hi : Int) (w : World) {R : Ending → World → Prop} (hR : ∀ w', Grow w w' → R (.returned (.bool (p.inside lo hi))) w') : Calls Try.prog 14 #[.agg p.cells.toArray, .int .i64 lo, .int .i64 hi] w R := by
  obtain ⟨x, y⟩ := p
  have HR : ∀ b w', (Pt.inside ⟨x, y⟩ lo hi) = b → Grow w w' → R (.returned (.bool b)) w' := by rintro b w' rfl h; exact hR _ h
  have HR := Lib.hid HR
  clear hR
  unfold Pt.cells
  dsimp only
  cases h1 : decide (lo ≤ x)
  · go_enter Try.func14, Try.ntmps14
    go_wp2
    refine HR.out _ _ (by simp [Pt.inside, h1]) ((Grow.refl w).al _)
  · cases h2 : decide (x ≤ hi)
    · go_enter Try.func14, Try.ntmps14
      go_wp2
      refine HR.out _ _ (by simp [Pt.inside, h1, h2]) ((Grow.refl w).al _)
    · cases h3 : decide (lo ≤ y)
      · go_enter Try.func14, Try.ntmps14
        go_wp2
        refine HR.out _ _ (by simp [Pt.inside, h1, h2, h3]) ((Grow.refl w).al _)
      · go_enter Try.func14, Try.ntmps14
        go_wp2
        refine HR.out _ _ (by simp [Pt.inside, h1, h2, h3]) ((Grow.refl w).al _)

def Fr.btw (f : Fr) (lo hi : Int) : Bool := f.right && decide (lo ≤ f.q) && (decide (f.q < hi) || (f.q == hi && f.r == 0))
