/-
  Products of two words: bits.Mul64, wide.Mul, wide.amount, cmp.Compare, cmp.Or, wide.times.
-/
import Derived.Test.YtjcgkhcbdbbdkaaChecked
import Derived.Test.YtjcgkhcbdbbdkaaBigW
import Derived.Test.YtjcgkhcbdbbdkaaLexT
import Derived.Lib.Mul64
import Derived.Laws.Bits64b
namespace Go.Proofs.Ytjcgkhcbdbbdkaa
open Go.RowKit Go.Lib B

theorem mask32 (a : Nat) (ha : a < 18446744073709551616) : bits .and .u64 (a : Int) 4294967295 = ((a % 4294967296 : Nat) : Int) := by
  have h := bits_and_u64_nat a 4294967295 ha (by omega)
  have e : a &&& 4294967295 = a % 4294967296 := Nat.and_two_pow_sub_one_eq_mod a 32
  rw [e] at h
  exact h
theorem div32 (a : Nat) : (a : Int) / 4294967296 = ((a / 4294967296 : Nat) : Int) := by omega
theorem mulNI (a b : Nat) : (a : Int) * (b : Int) = ((a * b : Nat) : Int) := (Int.natCast_mul a b).symm
theorem addNI (a b : Nat) : (a : Int) + (b : Int) = ((a + b : Nat) : Int) := (Int.natCast_add a b).symm
theorem wrapNI (a : Nat) (ha : a < 18446744073709551616) : IntKind.u64.wrap (a : Int) = (a : Int) := by rw [IntKind.wrap_u64]; omega
theorem wrapMI (a : Nat) : IntKind.u64.wrap (a : Int) = ((a % 18446744073709551616 : Nat) : Int) := by rw [IntKind.wrap_u64]; omega

set_option maxRecDepth 100000 in
set_option maxHeartbeats 1000000 in
theorem mul64_any (x y : Nat) (hx : x < 18446744073709551616) (hy : y < 18446744073709551616) (w : World) {R : Ending → World → Prop}
    (hR : R (.returned (.tuple #[.int .u64 ((x * y / 18446744073709551616 : Nat) : Int), .int .u64 ((x * y % 18446744073709551616 : Nat) : Int)])) w) :
    Calls Try.prog 108 #[.int .u64 x, .int .u64 y] w R := by
  have HR := Lib.hid hR
  clear hR
  obtain ⟨bd, bt, bw, hhi⟩ := Lib.mul64_hi x y hx hy
  have ba := Lib.half_mul_le (a := x / 4294967296) (b := y / 4294967296) (by omega) (by omega)
  have bb := Lib.half_mul_le (a := x / 4294967296) (b := y % 4294967296) (by omega) (by omega)
  have bc := Lib.half_mul_le (a := x % 4294967296) (b := y / 4294967296) (by omega) (by omega)
  have ba' : x / 4294967296 * (y / 4294967296) < 18446744073709551616 := by omega
  have bb' : x / 4294967296 * (y % 4294967296) < 18446744073709551616 := by omega
  have bc' : x % 4294967296 * (y / 4294967296) < 18446744073709551616 := by omega
  have bh1 : x / 4294967296 * (y / 4294967296) + (x / 4294967296 * (y % 4294967296) + x % 4294967296 * (y % 4294967296) / 4294967296) / 4294967296 < 18446744073709551616 := by omega
  have bh : x / 4294967296 * (y / 4294967296) + (x / 4294967296 * (y % 4294967296) + x % 4294967296 * (y % 4294967296) / 4294967296) / 4294967296 + ((x / 4294967296 * (y % 4294967296) + x % 4294967296 * (y % 4294967296) / 4294967296) % 4294967296 + x % 4294967296 * (y / 4294967296)) / 4294967296 < 18446744073709551616 := by omega
  go_enter Try.func108, Try.ntmps108
  go_wp2
  simp only [mask32 x hx, mask32 y hy, div32, mulNI, addNI, wrapNI _ bd, wrapNI _ bb', wrapNI _ bt, mask32 _ bt, wrapNI _ bc', wrapNI _ bw, wrapNI _ ba', wrapNI _ bh1, wrapNI _ bh, wrapMI (x * y)]
  rw [hhi]
  try go_wp2
  exact HR.out

set_option maxRecDepth 100000 in
set_option maxHeartbeats 1000000 in
theorem wmul_any (x y : Nat) (hx : x < 18446744073709551616) (hy : y < 18446744073709551616) (w : World) {R : Ending → World → Prop}
    (hR : R (.returned (.tuple #[.int .u64 ((x * y / 18446744073709551616 : Nat) : Int), .int .u64 ((x * y % 18446744073709551616 : Nat) : Int)])) w) :
    Calls Try.prog 106 #[.int .u64 x, .int .u64 y] w R := by
  have C := Lib.hid fun (R : Ending → World → Prop) hR => mul64_any x y hx hy w (R := R) hR
  have HR := Lib.hid hR
  clear hR
  generalize x * y / 18446744073709551616 = hi at *
  generalize x * y % 18446744073709551616 = lo at *
  go_enter Try.func106, Try.ntmps106
  go_wp2_with fail
  go_at_call 108
  refine C.out _ ?_
  go_wp2
  exact HR.out

set_option maxRecDepth 100000 in
set_option maxHeartbeats 1000000 in
theorem amount_any (n : Int) (hn : I64 n) (w : World) {R : Ending → World → Prop} (hR : R (.returned (.int .u64 (n.natAbs : Nat))) w) :
    Calls Try.prog 104 #[.int .i64 n] w R := by
  have HR := Lib.hid hR
  clear hR
  obtain ⟨n1, n2⟩ := hn
  by_cases h0 : n < 0
  · obtain ⟨m, hm⟩ : ∃ m : Nat, (m : Int) = -n := ⟨n.natAbs, by omega⟩
    obtain rfl : n = -(m : Int) := by omega
    have hm0 : 0 < m := by omega
    rw [show (-(m : Int)).natAbs = m by omega] at HR
    have e1 : IntKind.u64.wrap (-(m : Int)) = 18446744073709551616 - m := by rw [IntKind.wrap_u64]; omega
    have e2 : IntKind.u64.wrap (-(18446744073709551616 - (m : Int))) = m := by rw [IntKind.wrap_u64]; omega
    clear hm h0
    go_enter Try.func104, Try.ntmps104
    go_wp2
    exact HR.out
  · obtain ⟨m, rfl⟩ : ∃ m : Nat, n = m := ⟨n.toNat, by omega⟩
    rw [Int.natAbs_natCast] at HR
    clear h0
    go_enter Try.func104, Try.ntmps104
    go_wp2
    exact HR.out

def cmpI' (a b : Int) : Int := if a < b then -1 else if b < a then 1 else 0
set_option maxRecDepth 100000 in
set_option maxHeartbeats 1000000 in
theorem cmpI_any (a b : Int) (w : World) {R : Ending → World → Prop} (hR : R (.returned (.int .i64 (cmpI' a b))) w) :
    Calls Try.prog 57 #[.int .i64 a, .int .i64 b] w R := by
  have HR1 : ∀ n, cmpI' a b = n → R (.returned (.int .i64 n)) w := by rintro n rfl; exact hR
  have HR := Lib.hid HR1
  clear hR HR1
  by_cases h1 : a < b
  · go_enter Try.func57, Try.ntmps57
    go_wp2
    exact HR.out _ (by unfold cmpI'; rw [if_pos h1])
  · by_cases h2 : b < a
    · go_enter Try.func57, Try.ntmps57
      go_wp2
      exact HR.out _ (by unfold cmpI'; rw [if_neg (by omega), if_pos h2])
    · go_enter Try.func57, Try.ntmps57
      go_wp2
      exact HR.out _ (by unfold cmpI'; rw [if_neg (by omega), if_neg (by omega)])
set_option maxRecDepth 100000 in
set_option maxHeartbeats 1000000 in
theorem cmpU_any (a b : Int) (w : World) {R : Ending → World → Prop} (hR : R (.returned (.int .i64 (cmpI' a b))) w) :
    Calls Try.prog 58 #[.int .u64 a, .int .u64 b] w R := by
  have HR1 : ∀ n, cmpI' a b = n → R (.returned (.int .i64 n)) w := by rintro n rfl; exact hR
  have HR := Lib.hid HR1
  clear hR HR1
  by_cases h1 : a < b
  · go_enter Try.func58, Try.ntmps58
    go_wp2
    exact HR.out _ (by unfold cmpI'; rw [if_pos h1])
  · by_cases h2 : b < a
    · go_enter Try.func58, Try.ntmps58
      go_wp2
      exact HR.out _ (by unfold cmpI'; rw [if_neg (by omega), if_pos h2])
    · go_enter Try.func58, Try.ntmps58
      go_wp2
      exact HR.out _ (by unfold cmpI'; rw [if_neg (by omega), if_neg (by omega)])
end Go.Proofs.Ytjcgkhcbdbbdkaa
