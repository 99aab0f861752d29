import Derived.Test.YthgibnmnjoniiaaWind2
namespace Go.Proofs.Ythgibnmnjoniiaa
open Go.RowKit B

set_option maxRecDepth 100000 in
set_option maxHeartbeats 1000000 in
theorem rsign_any (l : List Pt) (v : Value) (S : Nat → Prop) (w : World) (hb : Rd w S 2 v l.length (Pts l)) {R : Ending → World → Prop}
    (hR : ∀ w', Grow w w' → R (.returned (.int .i64 (sgnI (areaV l)))) w') :
    Calls Try.prog 33 #[v] w R := by
  have HR := Lib.hid hR
  have HA := Lib.hid fun (R : Ending → World → Prop) hR => rarea_any l v S w hb (R := R) hR
  clear hR hb
  generalize areaV l = n at *
  generalize rightL l = b at *
  have HR2 : Hid (∀ k w', sgnI n = k → Grow w w' → R (.returned (.int .i64 k)) w') := by rintro k w' rfl h; exact HR.out w' h
  clear HR
  by_cases h1 : n < 0
  · go_enter Try.func33, Try.ntmps33
    go_wp2_with (go_at_call 31; refine HA.out _ ?_; intro w1 hg1)
    exact HR2.out _ _ (by unfold sgnI; rw [if_pos h1]) hg1
  · by_cases h2 : 0 < n
    · go_enter Try.func33, Try.ntmps33
      go_wp2_with (go_at_call 31; refine HA.out _ ?_; intro w1 hg1)
      exact HR2.out _ _ (by unfold sgnI; rw [if_neg (by omega), if_pos (by omega)]) hg1
    · go_enter Try.func33, Try.ntmps33
      go_wp2_with (go_at_call 31; refine HA.out _ ?_; intro w1 hg1)
      exact HR2.out _ _ (by unfold sgnI; rw [if_neg (by omega), if_neg (by omega)]) hg1

def sideI (a b p : Pt) : Int := (b.x - a.x) * (p.y - a.y) - (b.y - a.y) * (p.x - a.x)
def onB (a b p : Pt) : Bool := decide (min a.x b.x ≤ p.x) && decide (p.x ≤ max a.x b.x) && decide (min a.y b.y ≤ p.y) && decide (p.y ≤ max a.y b.y)

theorem mul_bd2 {a b : Int} (ha : -4194304 ≤ a ∧ a ≤ 4194304) (hb : -4194304 ≤ b ∧ b ≤ 4194304) : -17592186044416 ≤ a * b ∧ a * b ≤ 17592186044416 := by
  have h1 : a.natAbs ≤ 4194304 := by omega
  have h2 : b.natAbs ≤ 4194304 := by omega
  have h3 : (a * b).natAbs ≤ 4194304 * 4194304 := by rw [Int.natAbs_mul]; exact Nat.mul_le_mul h1 h2
  omega

set_option maxRecDepth 100000 in
set_option maxHeartbeats 1000000 in
theorem side_any (a b p : Pt) (w : World) (ha : a.inr = true) (hb : b.inr = true) (hp : p.inr = true) {R : Ending → World → Prop} (hR : ∀ w', Grow w w' → R (.returned (.int .i64 (sideI a b p))) w') :
    Calls Try.prog 74 #[.agg a.cells.toArray, .agg b.cells.toArray, .agg p.cells.toArray] w R := by
  have HR := Lib.hid hR
  have ha := Pt.inr_iff.1 ha
  have hb := Pt.inr_iff.1 hb
  have hp := Pt.inr_iff.1 hp
  clear hR
  obtain ⟨a1, a2⟩ := a
  obtain ⟨b1, b2⟩ := b
  obtain ⟨p1, p2⟩ := p
  dsimp only at ha hb hp
  obtain ⟨⟨x1, x2⟩, x3, x4⟩ := ha
  obtain ⟨⟨y1, y2⟩, y3, y4⟩ := hb
  obtain ⟨⟨z1, z2⟩, z3, z4⟩ := hp
  have m1 := mul_bd2 (a := b1 - a1) (b := p2 - a2) (by omega) (by omega)
  have m2 := mul_bd2 (a := b2 - a2) (b := p1 - a1) (by omega) (by omega)
  unfold Pt.cells
  dsimp only
  go_enter Try.func74, Try.ntmps74
  go_wp2
  exact HR.out _ ((((Grow.refl w).al _).al _).al _)

set_option maxRecDepth 100000 in
set_option maxHeartbeats 1000000 in
theorem on_any (a b p : Pt) (w : World) {R : Ending → World → Prop} (hR : ∀ w', Grow w w' → R (.returned (.bool (onB a b p))) w') :
    Calls Try.prog 75 #[.agg a.cells.toArray, .agg b.cells.toArray, .agg p.cells.toArray] w R := by
  have HR2 : Hid (∀ k w', onB a b p = k → Grow w w' → R (.returned (.bool k)) w') := by rintro k w' rfl h; exact hR w' h
  clear hR
  obtain ⟨a1, a2⟩ := a
  obtain ⟨b1, b2⟩ := b
  obtain ⟨p1, p2⟩ := p
  unfold onB at HR2
  dsimp only at HR2
  unfold Pt.cells
  dsimp only
  cases h1 : decide (min a1 b1 ≤ p1)
  · go_enter Try.func75, Try.ntmps75
    go_wp2
    all_goals (refine HR2.out _ _ ?_ ((((Grow.refl w).al _).al _).al _); simp only [decide_eq_false_iff_not] at *; rw [Bool.eq_iff_iff]; simp; omega)
  · cases h2 : decide (p1 ≤ max a1 b1)
    · go_enter Try.func75, Try.ntmps75
      go_wp2
      all_goals (refine HR2.out _ _ ?_ ((((Grow.refl w).al _).al _).al _); simp only [decide_eq_true_eq, decide_eq_false_iff_not] at *; rw [Bool.eq_iff_iff]; simp; omega)
    · cases h3 : decide (min a2 b2 ≤ p2)
      · go_enter Try.func75, Try.ntmps75
        go_wp2
        all_goals (refine HR2.out _ _ ?_ ((((Grow.refl w).al _).al _).al _); simp only [decide_eq_true_eq, decide_eq_false_iff_not] at *; rw [Bool.eq_iff_iff]; simp; omega)
      · go_enter Try.func75, Try.ntmps75
        go_wp2
        all_goals (refine HR2.out _ _ ?_ ((((Grow.refl w).al _).al _).al _); simp only [decide_eq_true_eq] at *; rw [Bool.eq_iff_iff]; simp; omega)

/-- does the way from a to b touch p? -/
def touch (p : Pt) (x : Pt × Pt) : Bool := decide (sideI x.1 x.2 p = 0) && onB x.1 x.2 p
def upB (p : Pt) (x : Pt × Pt) : Bool := decide (x.1.y ≤ p.y) && decide (p.y < x.2.y) && decide (0 < sideI x.1 x.2 p)
def dnB (p : Pt) (x : Pt × Pt) : Bool := decide (p.y < x.1.y) && decide (x.2.y ≤ p.y) && decide (sideI x.1 x.2 p < 0)
def delta (p : Pt) (x : Pt × Pt) : Int := if upB p x = true then 1 else if dnB p x = true then -1 else 0
theorem delta_bd (p : Pt) (x : Pt × Pt) : -1 ≤ delta p x ∧ delta p x ≤ 1 := by unfold delta; split <;> (try split) <;> omega
theorem sumP_bd1 (f : Pt × Pt → Int) (h : ∀ x, -1 ≤ f x ∧ f x ≤ 1) : ∀ l : List (Pt × Pt), -(l.length : Int) ≤ sumP f l ∧ sumP f l ≤ l.length
  | [] => by simp [sumP]
  | x :: l => by
    have ih := sumP_bd1 f h l
    have hx := h x
    simp only [sumP, List.length_cons]
    generalize sumP f l = s at *
    omega
/-- the answer of Around -/
def arN (l : List Pt) (p : Pt) : Int := if (rightL l && p.inr) = true then (if (edgesL l).any (touch p) = true then 0 else sumP (delta p) (edgesL l)) else 0
def arB (l : List Pt) (p : Pt) : Bool := (rightL l && p.inr) && !(edgesL l).any (touch p)
end Go.Proofs.Ythgibnmnjoniiaa
