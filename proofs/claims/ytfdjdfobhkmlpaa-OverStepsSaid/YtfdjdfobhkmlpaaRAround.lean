import Derived.Test.YtfdjdfobhkmlpaaAround
namespace Go.Proofs.Ytfdjdfobhkmlpaa
open Go.RowKit B

theorem btw_mul (a b p : Int) : decide ((p - a) * (p - b) ≤ 0) = (decide (min a b ≤ p) && decide (p ≤ max a b)) := by
  rw [Bool.eq_iff_iff]
  simp only [decide_eq_true_eq, Bool.and_eq_true]
  constructor
  · intro h
    refine ⟨?_, ?_⟩
    · rcases Int.lt_or_le p (min a b) with h1 | h1
      · have := Int.mul_pos_of_neg_of_neg (show p - a < 0 by omega) (show p - b < 0 by omega)
        omega
      · exact h1
    · rcases Int.lt_or_le (max a b) p with h1 | h1
      · have := Int.mul_pos (show 0 < p - a by omega) (show 0 < p - b by omega)
        omega
      · exact h1
  · rintro ⟨h1, h2⟩
    rcases Int.le_total a b with h | h
    · have := Int.mul_nonneg (show 0 ≤ p - a by omega) (show 0 ≤ b - p by omega)
      have e : (p - a) * (p - b) = -((p - a) * (b - p)) := by rw [← Int.mul_neg, Int.neg_sub]
      omega
    · have := Int.mul_nonneg (show 0 ≤ a - p by omega) (show 0 ≤ p - b by omega)
      have e : (p - a) * (p - b) = -((a - p) * (p - b)) := by rw [← Int.neg_mul, Int.neg_sub]
      omega
theorem onB_mul (a b p : Pt) : onB a b p = (decide ((p.x - a.x) * (p.x - b.x) ≤ 0) && decide ((p.y - a.y) * (p.y - b.y) ≤ 0)) := by
  rw [btw_mul, btw_mul, onB]
  simp only [Bool.and_assoc]
theorem area_three (a b p : Pt) (ha : a.inr = true) (hb : b.inr = true) (hp : p.inr = true) : rightL [a, b, p] = true ∧ areaV [a, b, p] = sideI a b p := by
  have h1 : rightL [a, b, p] = true := by simp [rightL, ha, hb, hp]
  refine ⟨h1, ?_⟩
  rw [areaV, if_pos h1]
  have : edgesL [a, b, p] = [(a, b), (b, p), (p, a)] := by simp [edgesL, List.range, List.range.loop]
  rw [areaOf, this]
  simp only [areaS, crossT, sideI]
  grind

end Go.Proofs.Ytfdjdfobhkmlpaa
