import Derived.Test.YtjcgkhcbdbbdkaaChecked
import Derived.Test.YtjcgkhcbdbbdkaaTwo
namespace Go.Proofs.Ytjcgkhcbdbbdkaa
open Go.RowKit Go.Lib B

theorem sgnC (x : Int) : cmpI' x 0 = x.sign := by
  unfold cmpI'
  rcases Int.lt_trichotomy x 0 with h | h | h
  · rw [if_pos h, Int.sign_eq_neg_one_of_neg h]
  · subst h; rfl
  · rw [if_neg (by omega), if_pos h, Int.sign_eq_one_of_pos h]
theorem tmS_sign (a b : Int) : tmS a b = (a * b).sign := by
  unfold tmS
  rw [sgnC, sgnC, Int.sign_mul]
theorem cmpI'_lt {x y : Int} (h : x < y) : cmpI' x y = -1 := by unfold cmpI'; rw [if_pos h]
theorem cmpI'_gt {x y : Int} (h : y < x) : cmpI' x y = 1 := by unfold cmpI'; rw [if_neg (by omega), if_pos h]
theorem cmpI'_eq {x y : Int} (h : x = y) : cmpI' x y = 0 := by unfold cmpI'; rw [if_neg (by omega), if_neg (by omega)]
theorem cmp_lex (P Q : Nat) : orL [cmpI' ((P / 18446744073709551616 : Nat) : Int) ((Q / 18446744073709551616 : Nat) : Int), cmpI' ((P % 18446744073709551616 : Nat) : Int) ((Q % 18446744073709551616 : Nat) : Int)] = cmpI' (P : Int) (Q : Int) := by
  obtain ⟨p1, h1⟩ : ∃ p1, P / 18446744073709551616 = p1 := ⟨_, rfl⟩
  obtain ⟨p0, h0⟩ : ∃ p0, P % 18446744073709551616 = p0 := ⟨_, rfl⟩
  obtain ⟨q1, k1⟩ : ∃ q1, Q / 18446744073709551616 = q1 := ⟨_, rfl⟩
  obtain ⟨q0, k0⟩ : ∃ q0, Q % 18446744073709551616 = q0 := ⟨_, rfl⟩
  rw [h1, h0, k1, k0]
  rcases Int.lt_trichotomy (p1 : Int) q1 with h | h | h
  · rw [cmpI'_lt h, cmpI'_lt (show (P : Int) < Q by omega)]; rfl
  · rw [cmpI'_eq h]
    rcases Int.lt_trichotomy (p0 : Int) q0 with k | k | k
    · rw [cmpI'_lt k, cmpI'_lt (show (P : Int) < Q by omega)]; rfl
    · rw [cmpI'_eq k, cmpI'_eq (show (P : Int) = Q by omega)]; rfl
    · rw [cmpI'_gt k, cmpI'_gt (show (Q : Int) < P by omega)]; rfl
  · rw [cmpI'_gt h, cmpI'_gt (show (Q : Int) < P by omega)]; rfl
theorem cmpI'_sign (x y : Int) : cmpI' x y = (x - y).sign := by
  rw [← sgnC]
  unfold cmpI'
  by_cases h : x < y
  · rw [if_pos h, if_pos (by omega)]
  · by_cases h2 : y < x
    · rw [if_neg h, if_pos h2, if_neg (by omega), if_pos (by omega)]
    · rw [if_neg h, if_neg h2, if_neg (by omega), if_neg (by omega)]
theorem cmpW_eq (a b c d : Int) : cmpW a b c d = (a * b - c * d).sign := by
  unfold cmpW
  rw [cmp_lex, tmS_sign, tmS_sign, ← Int.natAbs_mul, ← Int.natAbs_mul]
  generalize a * b = x
  generalize c * d = y
  rw [cmpI'_sign, cmpI'_sign]
  rcases Int.lt_trichotomy x 0 with hx | hx | hx
  · rw [Int.sign_eq_neg_one_of_neg hx]
    rcases Int.lt_trichotomy y 0 with hy | hy | hy
    · rw [Int.sign_eq_neg_one_of_neg hy, if_neg (by decide)]
      rw [show ((x.natAbs : Int) - (y.natAbs : Int)) = -(x - y) by omega, Int.sign_neg]
      omega
    · subst hy
      rw [if_pos (by decide), Int.sub_zero, Int.sign_eq_neg_one_of_neg hx]; rfl
    · rw [Int.sign_eq_one_of_pos hy, if_pos (by decide), Int.sign_eq_neg_one_of_neg (show x - y < 0 by omega)]; rfl
  · subst hx
    rw [if_pos (by simp)]
    rw [Int.sign_zero, Int.zero_sub, Int.zero_sub, Int.sign_neg, Int.sign_neg, Int.sign_sign]
  · rw [Int.sign_eq_one_of_pos hx]
    rcases Int.lt_trichotomy y 0 with hy | hy | hy
    · rw [Int.sign_eq_neg_one_of_neg hy, if_pos (by decide), Int.sign_eq_one_of_pos (show 0 < x - y by omega)]; rfl
    · subst hy
      rw [if_pos (by decide), Int.sub_zero, Int.sign_eq_one_of_pos hx]; rfl
    · rw [Int.sign_eq_one_of_pos hy, if_neg (by decide)]
      rw [show ((x.natAbs : Int) - (y.natAbs : Int)) = x - y by omega]
      omega

end Go.Proofs.Ytjcgkhcbdbbdkaa
