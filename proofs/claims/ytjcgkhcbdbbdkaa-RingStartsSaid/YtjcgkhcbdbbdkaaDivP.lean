/-
  Division of two words by one, a half word at a time, in plain Lean: no program is named here.
-/
namespace Go.Proofs.Ytjcgkhcbdbbdkaa
set_option maxRecDepth 100000

/-- an estimate q of the digit, with what it leaves of the upper half -/
def Est (y1 y0 un u1 q r : Nat) : Prop := q * y1 + r = un ∧ (un * 4294967296 + u1) / (y1 * 4294967296 + y0) ≤ q

theorem est_q_lt {y1 y0 un u1 : Nat} (h1 : 0 < y1) (hu1 : u1 < 4294967296) (hun : un < y1 * 4294967296 + y0) : (un * 4294967296 + u1) / (y1 * 4294967296 + y0) < 4294967296 := by
  rw [Nat.div_lt_iff_lt_mul (by omega)]
  omega
theorem est_mul (y1 y0 q : Nat) : q * (y1 * 4294967296 + y0) = q * y1 * 4294967296 + q * y0 := by
  rw [Nat.mul_add, Nat.mul_assoc]
theorem est_start {y1 y0 un u1 : Nat} (h1 : 0 < y1) (hu1 : u1 < 4294967296) : Est y1 y0 un u1 (un / y1) (un % y1) := by
  refine ⟨by rw [Nat.mul_comm]; exact Nat.div_add_mod un y1, ?_⟩
  rw [Nat.le_div_iff_mul_le h1]
  have h2 := Nat.div_mul_le_self (un * 4294967296 + u1) (y1 * 4294967296 + y0)
  generalize (un * 4294967296 + u1) / (y1 * 4294967296 + y0) = Q at *
  rw [est_mul] at h2
  generalize Q * y1 = a at *
  omega
theorem est_gt {y1 y0 un u1 q r : Nat} (h1 : 0 < y1) (hu1 : u1 < 4294967296) (hun : un < y1 * 4294967296 + y0) (h : Est y1 y0 un u1 q r) (ht : 4294967296 ≤ q ∨ 4294967296 * r + u1 < q * y0) :
    (un * 4294967296 + u1) / (y1 * 4294967296 + y0) < q := by
  rcases ht with ht | ht
  · exact Nat.lt_of_lt_of_le (est_q_lt h1 hu1 hun) ht
  · rw [Nat.div_lt_iff_lt_mul (by omega), est_mul, ← h.1]
    generalize q * y1 = a
    omega
theorem est_step {y1 y0 un u1 q r : Nat} (h1 : 0 < y1) (hu1 : u1 < 4294967296) (hun : un < y1 * 4294967296 + y0) (h : Est y1 y0 un u1 q r) (ht : 4294967296 ≤ q ∨ 4294967296 * r + u1 < q * y0) :
    1 ≤ q ∧ Est y1 y0 un u1 (q - 1) (r + y1) := by
  have hg := est_gt h1 hu1 hun h ht
  have h' := h.1
  unfold Est
  generalize (un * 4294967296 + u1) / (y1 * 4294967296 + y0) = Q at *
  obtain ⟨q, rfl⟩ : ∃ p, q = p + 1 := ⟨q - 1, by omega⟩
  refine ⟨by omega, ?_, by simp only [Nat.add_sub_cancel]; omega⟩
  rw [Nat.add_mul] at h'
  simp only [Nat.add_sub_cancel]
  omega
theorem est_le {y1 y0 un u1 q r : Nat} (h1 : 0 < y1) (h : Est y1 y0 un u1 q r) (ht : q * y0 ≤ 4294967296 * r + u1) : q = (un * 4294967296 + u1) / (y1 * 4294967296 + y0) := by
  refine Nat.le_antisymm ?_ h.2
  rw [Nat.le_div_iff_mul_le (by omega), est_mul, ← h.1]
  generalize q * y1 = a
  omega
theorem est_break {y1 y0 un u1 q r : Nat} (h1 : 0 < y1) (h0 : y0 < 4294967296) (hun : un < y1 * 4294967296 + y0) (h : Est y1 y0 un u1 q r) (hr : 4294967296 ≤ r) : q = (un * 4294967296 + u1) / (y1 * 4294967296 + y0) := by
  refine est_le h1 h ?_
  have h2 := h.1
  have hq : q < 4294967296 := by
    rcases Nat.lt_or_ge q 4294967296 with hq | hq
    · exact hq
    · exfalso
      have := Nat.mul_le_mul_right y1 hq
      rw [Nat.mul_comm 4294967296] at this
      generalize q * y1 = a at *
      omega
  have h3 : q * y0 ≤ 4294967296 * 4294967296 := Nat.mul_le_mul (by omega) (by omega)
  generalize q * y0 = b at *
  omega
theorem est_rest {U y Q : Nat} (hQ : Q = U / y) : U = Q * y + U % y := by
  rw [hQ, Nat.mul_comm (U / y)]
  exact (Nat.div_add_mod U y).symm
theorem two_digits_aux {B U y u1 u0 Q1 Q0 : Nat} (hy : 0 < y) (h1 : Q1 = (U * B + u1) / y) (h0 : Q0 = ((U * B + u1) % y * B + u0) / y) :
    (U * B * B + u1 * B + u0) / y = Q1 * B + Q0 ∧ (U * B * B + u1 * B + u0) % y = ((U * B + u1) % y * B + u0) % y := by
  have e1 := Nat.div_add_mod (U * B + u1) y
  rw [← h1] at e1
  generalize (U * B + u1) % y = X at *
  have e : U * B * B + u1 * B + u0 = X * B + u0 + y * (Q1 * B) := by
    rw [← Nat.mul_assoc, ← Nat.add_mul, ← e1, Nat.add_mul]
    omega
  rw [e, Nat.add_mul_div_left _ _ hy, Nat.add_mul_mod_self_left, h0]
  exact ⟨Nat.add_comm _ _, rfl⟩
/-- two digits make the quotient -/
theorem two_digits {U y u1 u0 Q1 Q0 : Nat} (hy : 0 < y) (h1 : Q1 = (U * 4294967296 + u1) / y) (h0 : Q0 = ((U * 4294967296 + u1) % y * 4294967296 + u0) / y) :
    (U * 4294967296 * 4294967296 + u1 * 4294967296 + u0) / y = Q1 * 4294967296 + Q0 ∧ (U * 4294967296 * 4294967296 + u1 * 4294967296 + u0) % y = ((U * 4294967296 + u1) % y * 4294967296 + u0) % y :=
  two_digits_aux hy h1 h0
/-- the shift of both does not matter -/
theorem shift_div (n y s : Nat) (hy : 0 < y) : n * 2 ^ s / (y * 2 ^ s) = n / y ∧ n * 2 ^ s % (y * 2 ^ s) = n % y * 2 ^ s :=
  ⟨Nat.mul_div_mul_right _ _ (Nat.pow_pos (by decide)), Nat.mul_mod_mul_right _ _ _⟩

/-- the upper word of a number of two, shifted -/
theorem up_word (hi lo s : Nat) (hs : s ≤ 63) : (hi * 18446744073709551616 + lo) * 2 ^ s = (hi * 2 ^ s + lo / 2 ^ (64 - s)) * 18446744073709551616 + lo * 2 ^ s % 18446744073709551616 := by
  have e : (18446744073709551616 : Nat) = 2 ^ (64 - s) * 2 ^ s := by rw [← Nat.pow_add, show 64 - s + s = 64 by omega]
  have h1 : lo * 2 ^ s / 18446744073709551616 = lo / 2 ^ (64 - s) := by
    rw [e]; exact Nat.mul_div_mul_right _ _ (Nat.pow_pos (by decide))
  have h2 := Nat.div_add_mod (lo * 2 ^ s) 18446744073709551616
  rw [h1] at h2
  rw [Nat.add_mul, Nat.add_mul, Nat.mul_right_comm, Nat.add_assoc, Nat.mul_comm (lo / 2 ^ (64 - s)), h2]
theorem up_lt {hi lo y s : Nat} (h0 : hi < y) (h2 : lo < 18446744073709551616) (hs : s ≤ 63) : hi * 2 ^ s + lo / 2 ^ (64 - s) < y * 2 ^ s := by
  have h := up_word hi lo s hs
  have h3 : hi * 18446744073709551616 + lo < y * 18446744073709551616 := by omega
  have h4 := Nat.mul_lt_mul_of_pos_right h3 (Nat.pow_pos (n := s) (show 0 < 2 by decide))
  rw [h, Nat.mul_right_comm] at h4
  generalize hi * 2 ^ s + lo / 2 ^ (64 - s) = u at *
  generalize y * 2 ^ s = Y at *
  generalize lo * 2 ^ s % 18446744073709551616 = L at *
  omega
theorem low_lt {lo s : Nat} (h2 : lo < 18446744073709551616) (hs : s ≤ 63) : lo / 2 ^ (64 - s) < 2 ^ s := by
  rw [Nat.div_lt_iff_lt_mul (Nat.pow_pos (by decide)), ← Nat.pow_add, show s + (64 - s) = 64 by omega]
  exact h2
/-- the whole division -/
theorem div_whole {hi lo y s un L Y u1 u0 Q1 x Q0 z : Nat} (hs : s ≤ 63) (hy : 0 < y) (hun : hi * 2 ^ s + lo / 2 ^ (64 - s) = un) (hL : lo * 2 ^ s % 18446744073709551616 = L) (hY : y * 2 ^ s = Y)
    (hu1 : L / 4294967296 = u1) (hu0 : L % 4294967296 = u0) (hQ1 : Q1 = (un * 4294967296 + u1) / Y) (hx : (un * 4294967296 + u1) % Y = x) (hQ0 : Q0 = (x * 4294967296 + u0) / Y) (hz : (x * 4294967296 + u0) % Y = z) :
    (hi * 18446744073709551616 + lo) / y = Q1 * 4294967296 + Q0 ∧ z / 2 ^ s = (hi * 18446744073709551616 + lo) % y := by
  have hw := up_word hi lo s hs
  rw [hun, hL] at hw
  obtain ⟨d1, d2⟩ := shift_div (hi * 18446744073709551616 + lo) y s hy
  rw [hw, hY] at d1 d2
  have hYp : 0 < Y := by rw [← hY]; exact Nat.mul_pos hy (Nat.pow_pos (by decide))
  have e : un * 18446744073709551616 + L = un * 4294967296 * 4294967296 + u1 * 4294967296 + u0 := by omega
  rw [e] at d1 d2
  rw [← hx] at hQ0 hz
  obtain ⟨t1, t2⟩ := two_digits hYp hQ1 hQ0
  rw [hz] at t2
  refine ⟨d1.symm.trans t1, ?_⟩
  rw [← t2, d2]
  exact Nat.mul_div_cancel _ (Nat.pow_pos (by decide))
end Go.Proofs.Ytjcgkhcbdbbdkaa
