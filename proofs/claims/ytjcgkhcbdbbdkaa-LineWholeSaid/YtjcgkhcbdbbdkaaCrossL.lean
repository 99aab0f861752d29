/-
  Where a line crosses: what frac.Cross computes, and the law of it, in plain Lean.
-/
import Derived.Test.YtjcgkhcbdbbdkaaFracW
import Derived.Test.YtjcgkhcbdbbdkaaPts
namespace Go.Proofs.Ytjcgkhcbdbbdkaa
open Go.RowKit

def Pt.swap (p : Pt) : Pt := ⟨p.y, p.x⟩
theorem Pt.swap_far (p : Pt) : p.swap.far = p.far := by simp only [Pt.far, Pt.swap, Bool.or_comm]
def crossX (p q : Pt) (c : Int) : Int := if q.x - p.x < 0 then -((c - p.x) * (q.y - p.y)) else (c - p.x) * (q.y - p.y)
def crossD (p q : Pt) : Nat := (q.x - p.x).natAbs
def lowF (n : Int) (r d : Nat) : Fr := ⟨n, r / Nat.gcd r d, d / Nat.gcd r d⟩
def crossF (p q : Pt) (c : Int) : Fr := lowF (p.y + crossX p q c / crossD p q) (crossX p q c % crossD p q).toNat (crossD p q)
def noneB (p q : Pt) (c : Int) : Bool := decide (p.x = q.x) || decide (c < min p.x q.x) || decide (max p.x q.x < c)
def crossC (p q : Pt) (c : Int) : Fr × Int := if noneB p q c = true then (⟨0, 0, 0⟩, 6) else (crossF p q c, 0)
def crossS (p q : Pt) (c : Int) (up : Bool) : Fr × Int :=
  if (p.far || q.far || !inw c) = true then (⟨0, 0, 0⟩, 8)
  else if up = true then crossC p.swap q.swap c else crossC p q c

theorem noneB_comm (p q : Pt) (c : Int) : noneB p q c = noneB q p c := by
  unfold noneB
  rw [Int.min_comm, Int.max_comm, show decide (p.x = q.x) = decide (q.x = p.x) from decide_eq_decide.2 ⟨Eq.symm, Eq.symm⟩]
theorem noneB_false {p q : Pt} {c : Int} (h : noneB p q c = false) : p.x ≠ q.x ∧ min p.x q.x ≤ c ∧ c ≤ max p.x q.x := by
  simp only [noneB, Bool.or_eq_false_iff, decide_eq_false_iff_not] at h
  omega
theorem far_false {p : Pt} (h : p.far = false) : (-4503599627370496 ≤ p.x ∧ p.x ≤ 4503599627370496) ∧ -4503599627370496 ≤ p.y ∧ p.y ≤ 4503599627370496 := by
  simp [Pt.far, inw] at h
  omega

theorem crossX_swap (p q : Pt) (c : Int) (h : p.x ≠ q.x) : crossX q p c = crossX p q c - (q.y - p.y) * (crossD p q : Int) := by
  unfold crossX crossD
  obtain ⟨px, py⟩ := p
  obtain ⟨qx, qy⟩ := q
  dsimp only at *
  obtain ⟨a, rfl⟩ : ∃ a, c = px + a := ⟨c - px, by omega⟩
  obtain ⟨d, rfl⟩ : ∃ d, qx = px + d := ⟨qx - px, by omega⟩
  obtain ⟨b, rfl⟩ : ∃ b, qy = py + b := ⟨qy - py, by omega⟩
  rw [show px + a - (px + d) = a - d by omega, show py - (py + b) = -b by omega, show px + a - px = a by omega, show py + b - py = b by omega, show px + d - px = d by omega, show px - (px + d) = -d by omega, Int.mul_neg, Int.sub_mul]
  by_cases h1 : d < 0
  · rw [if_pos h1, if_neg (by omega), show ((d.natAbs : Nat) : Int) = -d by omega, Int.mul_neg, Int.mul_comm b d]
    omega
  · rw [if_neg h1, if_pos (by omega), show ((d.natAbs : Nat) : Int) = d by omega, Int.mul_comm b d]
    omega
theorem crossD_swap (p q : Pt) : crossD q p = crossD p q := by unfold crossD; omega
theorem crossC_swap (p q : Pt) (c : Int) : crossC q p c = crossC p q c := by
  unfold crossC
  rw [noneB_comm q p]
  by_cases h : noneB p q c = true
  · rw [if_pos h, if_pos h]
  · rw [if_neg h, if_neg h]
    obtain ⟨h1, -⟩ := noneB_false (by simpa using h)
    have hd : (crossD p q : Int) ≠ 0 := by unfold crossD; omega
    unfold crossF
    rw [crossX_swap p q c h1, crossD_swap p q, Int.sub_mul_emod_self_right, Int.sub_mul_ediv_right _ _ hd, show q.y + (crossX p q c / (crossD p q : Int) - (q.y - p.y)) = p.y + crossX p q c / (crossD p q : Int) by omega]
theorem crossS_swap (p q : Pt) (c : Int) (up : Bool) : crossS q p c up = crossS p q c up := by
  unfold crossS
  rw [Bool.or_comm q.far, crossC_swap q.swap, crossC_swap q]

theorem q_bd {X n b : Int} {D r : Nat} (h : X - n * D = r) (hr : r < D) : (0 ≤ X → X ≤ b * D → 0 ≤ n ∧ n ≤ b) ∧ (b * D ≤ X → X ≤ 0 → b ≤ n ∧ n ≤ 0) := by
  have key : ∀ u v : Int, u ≤ v - 1 → u * (D : Int) ≤ v * D - D := fun u v h => by
    have := Int.mul_le_mul_of_nonneg_right h (show (0 : Int) ≤ D by omega)
    rwa [Int.sub_mul, Int.one_mul] at this
  refine ⟨fun h1 h2 => ⟨?_, ?_⟩, fun h1 h2 => ⟨?_, ?_⟩⟩ <;> refine Int.not_lt.1 fun h3 => ?_
  · have := key n 0 (by omega); omega
  · have := key b n (by omega); omega
  · have := key n b (by omega); omega
  · have := key 0 n (by omega); omega

theorem cross_bd {p q : Pt} {c : Int} (hn : noneB p q c = false) : 0 < crossD p q ∧ ((0 ≤ crossX p q c ∧ crossX p q c ≤ (q.y - p.y) * (crossD p q : Int)) ∨ ((q.y - p.y) * (crossD p q : Int) ≤ crossX p q c ∧ crossX p q c ≤ 0)) := by
  obtain ⟨h1, h2, h3⟩ := noneB_false hn
  unfold crossX crossD
  generalize q.y - p.y = b
  refine ⟨by omega, ?_⟩
  obtain ⟨A, hA, e⟩ : ∃ A : Int, (0 ≤ A ∧ A ≤ ((q.x - p.x).natAbs : Nat)) ∧ (if q.x - p.x < 0 then -((c - p.x) * b) else (c - p.x) * b) = A * b := by
    by_cases h : q.x - p.x < 0
    · exact ⟨-(c - p.x), by omega, by rw [if_pos h, Int.neg_mul]⟩
    · exact ⟨c - p.x, by omega, by rw [if_neg h]⟩
  rw [e]
  generalize (q.x - p.x).natAbs = D at *
  by_cases hb : 0 ≤ b
  · exact .inl ⟨Int.mul_nonneg hA.1 hb, by rw [Int.mul_comm b]; exact Int.mul_le_mul_of_nonneg_right hA.2 hb⟩
  · refine .inr ⟨by rw [Int.mul_comm b]; exact Int.mul_le_mul_of_nonpos_right hA.2 (by omega), ?_⟩
    have := Int.mul_nonneg hA.1 (show 0 ≤ -b by omega)
    rw [Int.mul_neg] at this
    omega

theorem lowF_right {n : Int} {r d : Nat} (h1 : -4503599627370496 ≤ n) (h2 : n ≤ 4503599627370496) (hr : r < d) (hd : d ≤ 9007199254740992) : (lowF n r d).right = true := by
  have hg : 0 < Nat.gcd r d := Nat.gcd_pos_of_pos_right _ (by omega)
  have e1 : r / Nat.gcd r d < d / Nat.gcd r d := by
    have := Nat.div_mul_cancel (Nat.gcd_dvd_left r d)
    have h3 := Nat.div_mul_cancel (Nat.gcd_dvd_right r d)
    generalize r / Nat.gcd r d = x at *
    generalize d / Nat.gcd r d = y at *
    generalize Nat.gcd r d = g at *
    subst this
    rw [← h3] at hr
    exact Nat.lt_of_mul_lt_mul_right hr
  have e2 : d / Nat.gcd r d ≤ d := Nat.div_le_self _ _
  have e3 : Nat.gcd (r / Nat.gcd r d) (d / Nat.gcd r d) = 1 := by
    rw [Nat.gcd_div (Nat.gcd_dvd_left r d) (Nat.gcd_dvd_right r d), Nat.div_self hg]
  unfold lowF Fr.right
  dsimp only
  rw [e3]
  simp only [inw, Bool.and_eq_true, decide_eq_true_eq, beq_self_eq_true, and_true]
  clear e3
  generalize r / Nat.gcd r d = x at *
  generalize d / Nat.gcd r d = y at *
  omega
theorem lowF_make {n : Int} {r d : Nat} (h1 : -4503599627370496 ≤ n) (h2 : n ≤ 4503599627370496) (hr : r < d) (hd : d ≤ 9007199254740992) : makeS n r d = (lowF n r d, 0) := by
  unfold makeS
  rw [if_neg (by omega)]
  exact if_pos (lowF_right h1 h2 hr hd)
theorem lowF_val {n : Int} {r d : Nat} : ((lowF n r d).q * (lowF n r d).d + (lowF n r d).r) * (d : Int) = (n * d + r) * (lowF n r d).d := by
  unfold lowF
  dsimp only
  have h2 := Nat.div_mul_cancel (Nat.gcd_dvd_left r d)
  have h3 := Nat.div_mul_cancel (Nat.gcd_dvd_right r d)
  have e : (r / Nat.gcd r d) * d = r * (d / Nat.gcd r d) := by
    generalize r / Nat.gcd r d = x at *
    generalize d / Nat.gcd r d = y at *
    generalize Nat.gcd r d = g at *
    rw [← h2, ← h3, Nat.mul_assoc, Nat.mul_comm y g]
  have e' : ((r / Nat.gcd r d : Nat) : Int) * (d : Int) = (r : Int) * ((d / Nat.gcd r d : Nat) : Int) := by
    rw [← Int.natCast_mul, ← Int.natCast_mul, e]
  rw [Int.add_mul, Int.add_mul, e', Int.mul_assoc, Int.mul_assoc, Int.mul_comm ((d / Nat.gcd r d : Nat) : Int) (d : Int)]

theorem cross_md {p q : Pt} {c : Int} (hp : p.far = false) (hq : q.far = false) (hn : noneB p q c = false) :
    ∃ (n : Int) (r : Nat), mdS (tmS (c - p.x) (q.y - p.y)) ((c - p.x).natAbs * (q.y - p.y).natAbs) (q.x - p.x).natAbs (cmpI' (q.x - p.x) 0) = (n, r, 0) ∧ makeS (p.y + n) r (crossD p q) = (crossF p q c, 0) ∧ (-4503599627370496 ≤ p.y + n ∧ p.y + n ≤ 4503599627370496) ∧ r < crossD p q ∧ n = crossX p q c / (crossD p q : Int) ∧ (r : Int) = crossX p q c % (crossD p q : Int) := by
  obtain ⟨n, r, e, h⟩ : ∃ n r e, mdS (tmS (c - p.x) (q.y - p.y)) ((c - p.x).natAbs * (q.y - p.y).natAbs) (q.x - p.x).natAbs (cmpI' (q.x - p.x) 0) = (n, r, e) := ⟨_, _, _, rfl⟩
  obtain ⟨f1, f2⟩ := far_false hp
  obtain ⟨f3, f4⟩ := far_false hq
  obtain ⟨hD, hX⟩ := cross_bd hn
  have hc := (noneB_false hn).1
  have L := (md_law (d := crossD p q) (x := crossX p q c) (by omega) rfl rfl h).2
  have hb : (q.y - p.y) * (crossD p q : Int) ≤ 9007199254740992 * (crossD p q : Int) ∧ -9007199254740992 * (crossD p q : Int) ≤ (q.y - p.y) * (crossD p q : Int) :=
    ⟨Int.mul_le_mul_of_nonneg_right (by omega) (by omega), Int.mul_le_mul_of_nonneg_right (by omega) (by omega)⟩
  have hD2 : crossD p q ≤ 9007199254740992 := by unfold crossD; omega
  obtain ⟨rfl, h2, h3, -⟩ := L (by omega)
  refine ⟨n, r, h, ?_⟩
  have hu := (Int.ediv_emod_unique (a := crossX p q c) (b := (crossD p q : Int)) (q := n) (r := (r : Int)) (by omega)).2 ⟨by rw [Int.mul_comm]; omega, by omega, by omega⟩
  have hnb : -4503599627370496 ≤ p.y + n ∧ p.y + n ≤ 4503599627370496 := by
    have hq := q_bd (b := q.y - p.y) h2 h3
    rcases hX with ⟨x1, x2⟩ | ⟨x1, x2⟩
    · have := hq.1 x1 x2; omega
    · have := hq.2 x1 x2; omega
  refine ⟨?_, hnb, h3, hu.1.symm, hu.2.symm⟩
  unfold crossF
  rw [hu.1, hu.2, Int.toNat_natCast]
  exact lowF_make hnb.1 hnb.2 h3 hD2

/-- P23.3: it is right, and of the line's value there -/
theorem cross_is {p q : Pt} {c : Int} (hp : p.far = false) (hq : q.far = false) (hn : noneB p q c = false) :
    (crossF p q c).right = true ∧ ((crossF p q c).q * (crossF p q c).d + (crossF p q c).r) * (crossD p q : Int) = (p.y * (crossD p q : Int) + crossX p q c) * (crossF p q c).d := by
  obtain ⟨n, r, -, -, hnb, hr, e1, e2⟩ := cross_md hp hq hn
  obtain ⟨f1, f2⟩ := far_false hp
  obtain ⟨f3, f4⟩ := far_false hq
  have hD2 : crossD p q ≤ 9007199254740992 := by unfold crossD; omega
  have hdm := Int.mul_ediv_add_emod (crossX p q c) (crossD p q : Int)
  unfold crossF
  rw [← e1, ← e2] at hdm ⊢
  rw [Int.toNat_natCast]
  refine ⟨lowF_right hnb.1 hnb.2 hr hD2, ?_⟩
  rw [lowF_val, ← hdm, Int.add_mul p.y, Int.mul_comm n, Int.add_assoc]
/-- P23.4: at the first point -/
theorem cross_at {p q : Pt} {c : Int} (hn : noneB p q c = false) (hc : c = p.x) : crossF p q c = ⟨p.y, 0, 1⟩ := by
  obtain ⟨hD, -⟩ := cross_bd hn
  have : crossX p q c = 0 := by unfold crossX; rw [hc, Int.sub_self, Int.zero_mul]; split <;> rfl
  unfold crossF lowF
  rw [this, Int.zero_ediv, Int.zero_emod, Int.add_zero, Int.toNat_zero, Nat.gcd_zero_left, Nat.zero_div, Nat.div_self hD]
end Go.Proofs.Ytjcgkhcbdbbdkaa
