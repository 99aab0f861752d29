/-
  What a product divided is, in plain Lean.
-/
import Derived.Test.YtjcgkhcbdbbdkaaWideCmps
import Derived.Test.YtjcgkhcbdbbdkaaMulDiv
namespace Go.Proofs.Ytjcgkhcbdbbdkaa
open Go.RowKit

theorem mds_big {s : Int} {P d : Nat} {u : Int} (hd : 0 < d) (h : (9223372036854775808 : Int) * d ≤ P) (hs : 0 ≤ s * u) : mdS s P d u = (0, 0, 8) := by
  unfold mdS
  rw [if_neg (by omega), if_pos hs]
  by_cases h1 : d ≤ P / 18446744073709551616
  · rw [if_pos h1]
  · rw [if_neg h1, if_pos]
    have : 9223372036854775808 ≤ P / d := by
      rw [Nat.le_div_iff_mul_le hd]
      omega
    omega
theorem mds_pos {s : Int} {P d : Nat} {u : Int} (hd : 0 < d) (h : (P : Int) < 9223372036854775808 * d) (hs : 0 ≤ s * u) : mdS s P d u = (((P / d : Nat) : Int), P % d, 0) := by
  unfold mdS
  rw [if_neg (by omega), if_pos hs, if_neg, if_neg]
  · have : P / d < 9223372036854775808 := by
      rw [Nat.div_lt_iff_lt_mul hd]
      omega
    omega
  · omega
theorem mds_low {s : Int} {P d : Nat} {u : Int} (hd : 0 < d) (h : (9223372036854775808 : Int) * d < P) (hs : ¬ 0 ≤ s * u) : mdS s P d u = (0, 0, 8) := by
  have h1 := Nat.div_add_mod P d
  have h2 := Nat.mod_lt P hd
  have h3 : 9223372036854775808 ≤ P / d := by
    rw [Nat.le_div_iff_mul_le hd]
    omega
  unfold mdS
  rw [if_neg (by omega), if_neg hs]
  by_cases h4 : d ≤ P / 18446744073709551616
  · rw [if_pos h4]
  · rw [if_neg h4]
    by_cases h5 : 0 < P % d
    · rw [if_pos h5]
      by_cases h6 : P / d = 18446744073709551615
      · rw [if_pos h6]
      · rw [if_neg h6, if_pos (by omega)]
    · rw [if_neg h5, if_pos]
      rcases Nat.lt_or_ge 9223372036854775808 (P / d) with h6 | h6
      · exact h6
      · have h7 : P / d = 9223372036854775808 := by omega
        rw [h7, Nat.mul_comm] at h1
        omega
theorem mds_neg {s : Int} {P d : Nat} {u : Int} (hd : 0 < d) (h : (P : Int) ≤ 9223372036854775808 * d) (hs : ¬ 0 ≤ s * u) :
    ∃ (q : Int) (r : Nat), mdS s P d u = (q, r, 0) ∧ -(P : Int) - q * d = r ∧ r < d ∧ -9223372036854775808 ≤ q ∧ q ≤ 0 := by
  have h1 := Nat.div_add_mod P d
  have h2 := Nat.mod_lt P hd
  have h4 : ¬ d ≤ P / 18446744073709551616 := by omega
  have e1 : ((P / d : Nat) : Int) * (d : Int) = ((d * (P / d) : Nat) : Int) := by rw [Int.natCast_mul, Int.mul_comm]
  unfold mdS
  rw [if_neg (by omega), if_neg h4, if_neg hs]
  by_cases h5 : 0 < P % d
  · rw [if_pos h5]
    have h3 : P / d < 9223372036854775808 := by
      rw [Nat.div_lt_iff_lt_mul hd]
      rcases Nat.lt_or_ge P (9223372036854775808 * d) with h6 | h6
      · exact h6
      · exfalso
        have h7 : P = d * 9223372036854775808 := by omega
        rw [h7, Nat.mul_mod_right] at h5
        omega
    rw [if_neg (by omega), if_neg (by omega)]
    clear h4
    generalize P / d = n at *
    refine ⟨_, _, rfl, ?_, by omega, by omega, by omega⟩
    rw [Int.sub_mul, Int.neg_mul, e1]
    omega
  · have h3 : P / d ≤ 9223372036854775808 := by
      have := Nat.div_le_div_right (c := d) (show P ≤ 9223372036854775808 * d by omega)
      rwa [Nat.mul_div_cancel _ hd] at this
    rw [if_neg h5, if_neg (by omega)]
    clear h4
    generalize P / d = n at *
    refine ⟨_, _, rfl, ?_, by omega, by omega, by omega⟩
    rw [Int.neg_mul, e1]
    omega

/-- P22.2, P22.3: x: the product, with the sign of c; d: the amount of c -/
theorem md_law {a b c x : Int} {d : Nat} (hc : c ≠ 0) (hd : d = c.natAbs) (hx : x = if c < 0 then -(a * b) else a * b) {q : Int} {r : Nat} {e : Int} (h : mdS (tmS a b) (a.natAbs * b.natAbs) c.natAbs (cmpI' c 0) = (q, r, e)) :
    ((x < -9223372036854775808 * (d : Int) ∨ 9223372036854775808 * (d : Int) ≤ x) → q = 0 ∧ r = 0 ∧ e = 8) ∧
    (¬ (x < -9223372036854775808 * (d : Int) ∨ 9223372036854775808 * (d : Int) ≤ x) → e = 0 ∧ x - q * d = r ∧ r < d ∧ I64 q) := by
  rw [tmS_sign, sgnC, ← Int.natAbs_mul, ← hd] at h
  have hdp : 0 < d := by omega
  generalize a * b = y at *
  have hxa : x.natAbs = y.natAbs := by rw [hx]; split <;> simp
  have hsg : y.sign * c.sign = x.sign := by
    rw [hx]
    split
    · rename_i h0
      rw [Int.sign_eq_neg_one_of_neg h0, Int.sign_neg]; omega
    · rw [Int.sign_eq_one_of_pos (show 0 < c by omega)]; omega
  rw [← hxa] at h
  have hs : ∀ v, mdS y.sign x.natAbs d c.sign = v ↔ mdS x.sign x.natAbs d 1 = v := by
    intro v
    unfold mdS
    rw [hsg, Int.mul_one]
  rw [hs] at h
  clear hs hsg hx hxa
  by_cases h0 : 0 ≤ x
  · have hs0 : 0 ≤ x.sign * 1 := by
      rw [Int.mul_one]
      rcases Int.lt_or_eq_of_le h0 with h | h
      · rw [Int.sign_eq_one_of_pos h]; decide
      · rw [← h]; decide
    by_cases hb : 9223372036854775808 * (d : Int) ≤ x
    · rw [mds_big hdp (by omega) hs0] at h
      simp only [Prod.mk.injEq] at h
      obtain ⟨rfl, rfl, rfl⟩ := h
      exact ⟨fun _ => ⟨rfl, rfl, rfl⟩, fun hn => absurd (Or.inr hb) hn⟩
    · rw [mds_pos hdp (by omega) hs0] at h
      simp only [Prod.mk.injEq] at h
      obtain ⟨rfl, rfl, rfl⟩ := h
      have hm := Nat.div_add_mod x.natAbs d
      have hl := Nat.mod_lt x.natAbs hdp
      have hq : x.natAbs / d < 9223372036854775808 := by
        rw [Nat.div_lt_iff_lt_mul hdp]
        omega
      have e1 : ((x.natAbs / d : Nat) : Int) * (d : Int) = ((d * (x.natAbs / d) : Nat) : Int) := by rw [Int.natCast_mul, Int.mul_comm]
      generalize x.natAbs / d = n at *
      refine ⟨fun hn => by omega, fun _ => ⟨rfl, by rw [e1]; omega, hl, by constructor <;> omega⟩⟩
  · have hs0 : ¬ 0 ≤ x.sign * 1 := by
      rw [Int.mul_one, Int.sign_eq_neg_one_of_neg (by omega)]; decide
    by_cases hb : x < -9223372036854775808 * (d : Int)
    · rw [mds_low hdp (by omega) hs0] at h
      simp only [Prod.mk.injEq] at h
      obtain ⟨rfl, rfl, rfl⟩ := h
      exact ⟨fun _ => ⟨rfl, rfl, rfl⟩, fun hn => absurd (Or.inl hb) hn⟩
    · obtain ⟨q', r', e', h1, h2, h3, h4⟩ := mds_neg (P := x.natAbs) (u := 1) hdp (by omega) hs0
      rw [e'] at h
      simp only [Prod.mk.injEq] at h
      obtain ⟨rfl, rfl, rfl⟩ := h
      refine ⟨fun hn => by omega, fun _ => ⟨rfl, by rw [← h1]; omega, h2, by constructor <;> omega⟩⟩
end Go.Proofs.Ytjcgkhcbdbbdkaa
