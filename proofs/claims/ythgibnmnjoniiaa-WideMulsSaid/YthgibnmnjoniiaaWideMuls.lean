import Derived.Test.YthgibnmnjoniiaaChecked
import Derived.Test.YthgibnmnjoniiaaTwo
namespace Go.Proofs.Ythgibnmnjoniiaa
open Go.RowKit Go.Lib B

set_option maxRecDepth 100000 in
set_option maxHeartbeats 2000000 in
theorem wideMuls_walk (a b : Nat) (w : World) (h1 : a < 18446744073709551616) (h2 : b < 18446744073709551616) {R : Ending → World → Prop} (hR : ∀ w', Grow w w' → R (.returned (.bool true)) w') :
    Calls Try.prog 10 #[.int .u64 a, .int .u64 b] w R := by
  have HR := Lib.hid hR
  clear hR
  have M := Lib.hid fun W (R : Ending → World → Prop) hR => wmul_any a b h1 h2 W (R := R) hR
  have GC := Lib.hid fun W (R : Ending → World → Prop) hR => gcd_any a b W h1 h2 (R := R) hR
  have RG := Lib.hid fun W (R : Ending → World → Prop) hR => rgcd_any (b + 1) a b W (by omega) h1 h2 (R := R) hR
  have hp : a * b / 18446744073709551616 < 18446744073709551616 := by
    rw [Nat.div_lt_iff_lt_mul (by decide)]
    exact Nat.mul_lt_mul'' h1 h2
  have hq : a * b % 18446744073709551616 < 18446744073709551616 := Nat.mod_lt _ (by decide)
  have hz : Hid ((((a * b / 18446744073709551616 : Nat) : Int) * 18446744073709551616 + ((a * b % 18446744073709551616 : Nat) : Int) - (a : Int) * (b : Int)).sign = 0) := by
    show _ = _
    rw [← Int.natCast_mul]
    generalize a * b = P
    rw [show (((P / 18446744073709551616 : Nat) : Int) * 18446744073709551616 + ((P % 18446744073709551616 : Nat) : Int) - (P : Int)) = 0 by omega]
    rfl
  have T := Lib.hid fun W (R : Ending → World → Prop) hR => two_any _ _ W hp hq (R := R) hR
  have hga : Hid (Nat.gcd a b ≠ 0 → a % Nat.gcd a b = 0 ∧ b % Nat.gcd a b = 0) := fun _ => ⟨Nat.mod_eq_zero_of_dvd (Nat.gcd_dvd_left a b), Nat.mod_eq_zero_of_dvd (Nat.gcd_dvd_right a b)⟩
  have hgb : Nat.gcd a b < 18446744073709551616 := by
    rcases Nat.eq_zero_or_pos a with h | h
    · subst h; simpa using h2
    · exact Nat.lt_of_le_of_lt (Nat.gcd_le_left b h) h1
  generalize a * b / 18446744073709551616 = hi at *
  generalize a * b % 18446744073709551616 = lo at *
  generalize Nat.gcd a b = g at *
  go_enter Try.func10, Try.ntmps10
  go_wp2_with fail
  go_at_call 48
  refine M.out _ _ ?_
  go_wp2_with fail
  go_at_call 49
  refine GC.out _ _ ?_
  intro w1 hg1
  have G1 := Lib.hid hg1
  clear hg1
  go_wp2_with fail
  go_at_call 44
  refine T.out _ _ ?_
  intro r2 w2 hg2 hr2
  have G2 := Lib.hid (G1.out.tr hg2)
  have R2 := Lib.hid hr2
  clear hg2 hr2
  go_wp2_with fail
  go_at_call 47
  refine word_any a _ h1 ?_
  intro r3 w3 hg3 hr3
  have G3 := Lib.hid (G2.out.tr hg3)
  have R2 := Lib.hid (R2.out.gr hg3)
  have R3 := Lib.hid hr3
  clear hg3 hr3
  go_wp2_with fail
  go_at_call 47
  refine word_any b _ h2 ?_
  intro r4 w4 hg4 hr4
  have G4 := Lib.hid (G3.out.tr hg4)
  have R2 := Lib.hid (R2.out.gr hg4)
  have R3 := Lib.hid (R3.out.gr hg4)
  have R4 := Lib.hid hr4
  clear hg4 hr4
  go_wp2_with fail
  go_at_call 41
  refine mul_any _ _ 4 4 _ _ _ _ w4 R3.out R4.out (by omega) (by omega) ?_
  intro r5 w5 hg5 hr5
  have G5 := Lib.hid (G4.out.tr hg5)
  have R2 := Lib.hid (R2.out.gr hg5)
  have R5 := Lib.hid hr5
  clear hg5 hr5
  go_wp2_with fail
  go_at_call 45
  refine cmp_any _ _ 13 8 _ _ _ _ w5 R2.out R5.out (by omega) (by omega) ?_
  rw [hz.out]
  intro w6 hg6
  have G6 := Lib.hid (G5.out.tr hg6)
  clear hg6
  go_wp2_with fail
  go_at_call 50
  refine RG.out _ _ ?_
  by_cases hg0 : g = 0
  · subst hg0
    go_wp2_with fail
    go_at_call 40
    refine live22_any _ ?_
    intro w9 hg9
    have HG9 := Lib.hid hg9
    clear hg9
    go_wp2
    exact HR.out _ (G6.out.tr HG9.out)
  · obtain ⟨d1, d2⟩ := hga.out hg0
    have t0 : ((g : Int) == 0) = false := by rw [beq_eq_false_iff_ne]; omega
    have t1 : ((a : Int) % g) = 0 := by rw [← Int.natCast_emod, d1]; rfl
    have t2 : ((b : Int) % g) = 0 := by rw [← Int.natCast_emod, d2]; rfl
    have t3 : ¬ g = 0 := hg0
    clear d1 d2
    go_wp2_with fail
    go_at_call 40
    refine live22_any _ ?_
    intro w9 hg9
    have HG9 := Lib.hid hg9
    clear hg9
    go_wp2
    exact HR.out _ (G6.out.tr HG9.out)
end Go.Proofs.Ythgibnmnjoniiaa
