import Derived.Test.YtfdjdfobhkmlpaaWind2
namespace Go.Proofs.Ytfdjdfobhkmlpaa
open Go.RowKit B

def sideI (a b p : Pt) : Int := (b.x - a.x) * (p.y - a.y) - (b.y - a.y) * (p.x - a.x)
def onB (a b p : Pt) : Bool := decide (min a.x b.x ≤ p.x) && decide (p.x ≤ max a.x b.x) && decide (min a.y b.y ≤ p.y) && decide (p.y ≤ max a.y b.y)

theorem mul_bd2 {a b : Int} (ha : -4194304 ≤ a ∧ a ≤ 4194304) (hb : -4194304 ≤ b ∧ b ≤ 4194304) : -17592186044416 ≤ a * b ∧ a * b ≤ 17592186044416 := by
  have h1 : a.natAbs ≤ 4194304 := by omega
  have h2 : b.natAbs ≤ 4194304 := by omega
  have h3 : (a * b).natAbs ≤ 4194304 * 4194304 := by rw [Int.natAbs_mul]; exact Nat.mul_le_mul h1 h2
  omega

/-- does the way from a to b touch p? -/
def touch (p : Pt) (x : Pt × Pt) : Bool := decide (sideI x.1 x.2 p = 0) && onB x.1 x.2 p
def upB (p : Pt) (x : Pt × Pt) : Bool := decide (x.1.y ≤ p.y) && decide (p.y < x.2.y) && decide (0 < sideI x.1 x.2 p)
def dnB (p : Pt) (x : Pt × Pt) : Bool := decide (p.y < x.1.y) && decide (x.2.y ≤ p.y) && decide (sideI x.1 x.2 p < 0)
def delta (p : Pt) (x : Pt × Pt) : Int := if upB p x = true then 1 else if dnB p x = true then -1 else 0
theorem delta_bd (p : Pt) (x : Pt × Pt) : -1 ≤ delta p x ∧ delta p x ≤ 1 := by unfold delta; split <;> (try split) <;> omega
theorem sumP_bd1 (f : Pt × Pt → Int) (h : ∀ x, -1 ≤ f x ∧ f x ≤ 1) : ∀ l : List (Pt × Pt), -(l.length : Int) ≤ sumP f l ∧ sumP f l ≤ l.length
  | [] => by simp [sumP]
  | x :: l => by
    have ih := sumP_bd1 f h l
    have hx := h x
    simp only [sumP, List.length_cons]
    generalize sumP f l = s at *
    omega
/-- the answer of Around -/
def arN (l : List Pt) (p : Pt) : Int := if (rightL l && p.inr) = true then (if (edgesL l).any (touch p) = true then 0 else sumP (delta p) (edgesL l)) else 0
def arB (l : List Pt) (p : Pt) : Bool := (rightL l && p.inr) && !(edgesL l).any (touch p)
end Go.Proofs.Ytfdjdfobhkmlpaa
