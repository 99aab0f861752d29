/-
  Bits and wraps as plain arithmetic. No program is named here.
-/
import Derived.WalkKit
import Derived.Laws.BitsAllLaws
import Derived.Laws.Bits64b
namespace Go.Proofs.YtehffeglgdcogaaDoor

theorem pow128 (i : Nat) : 128 ^ i = 2 ^ (7 * i) := by rw [Nat.pow_mul]

theorem lt128 {v : Nat} (h : v < 18446744073709551616) : v < 128 ^ (9 + 1) := by
  have e : 128 ^ (9 + 1) = 1180591620717411303424 := by decide
  omega

theorem and127 (x : Nat) (hx : x < 256) : bits .and .u8 (x : Int) 127 = ((x % 128 : Nat) : Int) := by
  have h := u8_and_nat x 127 hx (by decide)
  rw [show (127 : Nat) = 2 ^ 7 - 1 from rfl, Nat.and_two_pow_sub_one_eq_mod] at h
  exact h

/-- A varint's next seven bits go above those that are read. -/
theorem vor (a x i : Nat) (m : Int) (hm : m = 2 ^ (7 * i)) (ha : a < 128 ^ i) (hi : i < 10) (hx : x < 256) (h9 : ¬ (i = 9 ∧ 1 < x)) :
    bits .or .u64 (a : Int) (IntKind.u64.wrap (IntKind.u64.wrap (bits .and .u8 (x : Int) 127) * m)) = ((a + x % 128 * 128 ^ i : Nat) : Int) ∧ (a + x % 128 * 128 ^ i) < 128 ^ (i + 1) ∧ (a + x % 128 * 128 ^ i) < 18446744073709551616 := by
  have hb : x % 128 * 128 ^ i + 128 ^ i ≤ 128 ^ (i + 1) := by
    have h : (x % 128 + 1) * 128 ^ i ≤ 128 * 128 ^ i := Nat.mul_le_mul_right _ (by omega)
    rw [Nat.pow_succ, Nat.mul_comm (128 ^ i) 128]
    rw [Nat.add_mul] at h
    omega
  have h64 : x % 128 * 128 ^ i + 128 ^ i ≤ 18446744073709551616 := by
    by_cases h : i = 9
    · subst h
      have h : (x % 128 + 1) * 128 ^ 9 ≤ 2 * 128 ^ 9 := Nat.mul_le_mul_right _ (by omega)
      have e : 2 * 128 ^ 9 = 18446744073709551616 := by decide
      rw [Nat.add_mul] at h
      omega
    · have h1 : 128 ^ (i + 1) ≤ 128 ^ 9 := Nat.pow_le_pow_right (by decide) (by omega)
      have e : 128 ^ 9 = 9223372036854775808 := by decide
      omega
  refine ⟨?_, by omega, by omega⟩
  rw [and127 x hx, IntKind.wrap_u64, IntKind.wrap_u64]
  have e1 : ((x % 128 : Nat) : Int) % 18446744073709551616 = ((x % 128 : Nat) : Int) := by omega
  have e2 : m = ((128 ^ i : Nat) : Int) := by rw [hm, pow128]; simp
  rw [e1, e2, ← Int.natCast_mul]
  have e3 : ((x % 128 * 128 ^ i : Nat) : Int) % 18446744073709551616 = ((x % 128 * 128 ^ i : Nat) : Int) := by omega
  rw [e3, bits_or_u64_nat _ _ (by omega) (by omega), Nat.or_comm]
  have h := Nat.two_pow_add_eq_or_of_lt (i := 7 * i) (b := a) (by rw [← pow128]; exact ha) (x % 128)
  rw [← pow128, Nat.mul_comm (128 ^ i)] at h
  rw [← h, Nat.add_comm]

/-- The same by a sum. -/
theorem vadd (a x i u : Nat) (hu : 128 ^ i = u) (ha : a < u) (hi : i < 10) (hx : x < 256) (h9 : ¬ (i = 9 ∧ 1 < x)) :
    IntKind.u64.wrap ((a : Int) + IntKind.u64.wrap ((x : Int) % 128 * u)) = ((a + x % 128 * 128 ^ i : Nat) : Int) ∧ (a + x % 128 * 128 ^ i) < 128 ^ (i + 1) ∧ (a + x % 128 * 128 ^ i) < 18446744073709551616 := by
  subst hu
  obtain ⟨_, h1, h2⟩ := vor a x i _ rfl ha hi hx h9
  refine ⟨?_, h1, h2⟩
  rw [IntKind.wrap_u64, IntKind.wrap_u64]
  have e : (x : Int) % 128 * ((128 ^ i : Nat) : Int) = ((x % 128 * 128 ^ i : Nat) : Int) := by simp
  rw [e]
  generalize x % 128 * 128 ^ i = y at *
  omega

theorem unit_next (i u : Nat) (hu : 128 ^ i = u) : IntKind.u64.wrap ((u : Int) * 128) = ((128 ^ (i + 1) % 18446744073709551616 : Nat) : Int) := by
  subst hu
  rw [IntKind.wrap_u64, Nat.pow_succ]
  omega

theorem xor_u64_zero (a : Int) (h : 0 ≤ a ∧ a < 18446744073709551616) : bits .xor .u64 a 0 = a := by
  obtain ⟨a, rfl⟩ := Int.eq_ofNat_of_zero_le h.1
  have := bits_xor_u64_nat a 0 (by omega) (by decide)
  rw [Nat.xor_zero] at this
  exact this
theorem xor_ones (a : Nat) (ha : a < 18446744073709551616) : a ^^^ 18446744073709551615 = 18446744073709551615 - a := by
  have h := congrArg BitVec.toNat (BitVec.xor_allOnes (x := BitVec.ofNat 64 a))
  rw [BitVec.toNat_xor, BitVec.toNat_not, BitVec.toNat_allOnes, BitVec.toNat_ofNat, Nat.mod_eq_of_lt (by omega)] at h
  exact h
theorem xor_u64_ones (a : Int) (h : 0 ≤ a ∧ a < 18446744073709551616) : bits .xor .u64 a 18446744073709551615 = 18446744073709551615 - a := by
  obtain ⟨a, rfl⟩ := Int.eq_ofNat_of_zero_le h.1
  have := bits_xor_u64_nat a 18446744073709551615 (by omega) (by decide)
  rw [xor_ones a (by omega)] at this
  refine Eq.trans this ?_
  omega
theorem xor_i64_zero (a : Int) (h : 0 ≤ a ∧ a < 9223372036854775808) : bits .xor .i64 a 0 = a := by
  obtain ⟨a, rfl⟩ := Int.eq_ofNat_of_zero_le h.1
  show IntKind.i64.wrap ((BitVec.ofInt 64 (a : Int) ^^^ BitVec.ofInt 64 0).toNat : Int) = _
  have e : BitVec.ofInt 64 (0 : Int) = 0#64 := rfl
  rw [e, BitVec.xor_zero, BitVec.ofInt_natCast, BitVec.toNat_ofNat, IntKind.wrap_i64]
  omega
theorem xor_i64_ones (a : Int) (h : 0 ≤ a ∧ a < 9223372036854775808) : bits .xor .i64 a (-1) = -a - 1 := by
  obtain ⟨a, rfl⟩ := Int.eq_ofNat_of_zero_le h.1
  show IntKind.i64.wrap ((BitVec.ofInt 64 (a : Int) ^^^ BitVec.ofInt 64 (-1)).toNat : Int) = _
  have e : BitVec.ofInt 64 (-1 : Int) = BitVec.allOnes 64 := rfl
  rw [e, BitVec.xor_allOnes, BitVec.toNat_not, BitVec.ofInt_natCast, BitVec.toNat_ofNat, IntKind.wrap_i64]
  omega
theorem and_u64_one (a : Int) (h : 0 ≤ a ∧ a < 18446744073709551616) : bits .and .u64 a 1 = a % 2 := by
  obtain ⟨a, rfl⟩ := Int.eq_ofNat_of_zero_le h.1
  have h := bits_and_u64_nat a 1 (by omega) (by decide)
  rw [Nat.and_one_is_mod] at h
  refine Eq.trans h ?_
  omega

theorem and_mask_i64 (n : Int) (k : Nat) (hk : k ≤ 62) : bits .and .i64 n ((2 ^ k - 1 : Nat) : Int) = n % ((2 ^ k : Nat) : Int) := by
  have hp : 0 < 2 ^ k := Nat.two_pow_pos k
  have h62 : 2 ^ k ≤ 2 ^ 62 := Nat.pow_le_pow_right (by decide) hk
  have h62' : 2 ^ k ≤ 4611686018427387904 := h62
  show IntKind.i64.wrap ((BitVec.ofInt 64 n &&& BitVec.ofInt 64 ((2 ^ k - 1 : Nat) : Int)).toNat : Int) = _
  rw [BitVec.toNat_and, BitVec.ofInt_natCast (n := 2 ^ k - 1), BitVec.toNat_ofNat, Nat.mod_eq_of_lt (a := 2 ^ k - 1) (by omega), Nat.and_two_pow_sub_one_eq_mod, IntKind.wrap_i64, BitVec.toNat_ofInt]
  have hd : ((2 ^ k : Nat) : Int) ∣ ((2 ^ 64 : Nat) : Int) := Int.natCast_dvd_natCast.2 (Nat.pow_dvd_pow 2 (by omega))
  have e1 : (((n % ((2 ^ 64 : Nat) : Int)).toNat % 2 ^ k : Nat) : Int) = n % ((2 ^ k : Nat) : Int) := by
    rw [Int.natCast_emod, Int.toNat_of_nonneg (Int.emod_nonneg _ (by decide)), Int.emod_emod_of_dvd _ hd]
  rw [e1]
  have h1 := Int.emod_nonneg n (b := ((2 ^ k : Nat) : Int)) (by omega)
  have h2 := Int.emod_lt_of_pos n (b := ((2 ^ k : Nat) : Int)) (by omega)
  omega
theorem and_i64_29 (n : Int) : bits .and .i64 n 536870911 = n % 536870912 := and_mask_i64 n 29 (by decide)
theorem and_i64_3 (n : Int) : bits .and .i64 n 7 = n % 8 := and_mask_i64 n 3 (by decide)

/-- the head of a field -/
theorem head_bits (n k : Int) : bits .or .u64 (IntKind.u64.wrap (IntKind.u64.wrap (bits .and .i64 n 536870911) * 8)) (IntKind.u64.wrap (bits .and .i64 k 7)) = (((n % 536870912 * 8 + k % 8).toNat : Nat) : Int) := by
  rw [and_i64_29, and_i64_3]
  simp only [IntKind.wrap_u64]
  have h1 : n % 536870912 = ((n % 536870912).toNat : Int) := by omega
  have h2 : k % 8 = ((k % 8).toNat : Int) := by omega
  have h3 : (n % 536870912).toNat < 536870912 := by omega
  have h4 : (k % 8).toNat < 8 := by omega
  generalize (n % 536870912).toNat = x at *
  generalize (k % 8).toNat = y at *
  rw [h1, h2]
  have e1 : (x : Int) % 18446744073709551616 * 8 % 18446744073709551616 = ((x * 8 : Nat) : Int) := by omega
  have e2 : (y : Int) % 18446744073709551616 = (y : Int) := by omega
  rw [e1, e2, bits_or_u64_nat _ _ (by omega) (by omega)]
  have h := Nat.two_pow_add_eq_or_of_lt (i := 3) (b := y) h4 x
  rw [Nat.mul_comm] at h
  rw [← h]
  omega

theorem tmod29 (n : Int) : (n.tmod 536870912 < 0 → n % 536870912 = n.tmod 536870912 + 536870912) ∧ (¬ n.tmod 536870912 < 0 → n % 536870912 = n.tmod 536870912) ∧ -536870912 < n.tmod 536870912 ∧ n.tmod 536870912 < 536870912 := by
  by_cases h : 0 ≤ n
  · rw [Int.tmod_eq_emod_of_nonneg h]
    omega
  · obtain ⟨m, rfl⟩ : ∃ m, n = -m := ⟨-n, by omega⟩
    rw [Int.neg_tmod, Int.tmod_eq_emod_of_nonneg (show 0 ≤ m by omega)]
    omega

end Go.Proofs.YtehffeglgdcogaaDoor
