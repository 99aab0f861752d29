/-
  bits.Len64, bits.LeadingZeros64.
-/
import Derived.Test.YtjcgkhcbdbbdkaaChecked
import Derived.Test.YtjcgkhcbdbbdkaaBigW
import Derived.Lib.Strings
import Derived.Lib.Slices
import Derived.Lib.Small
import Derived.Lib.Walk
import Derived.Lib.BitFns
namespace Go.Proofs.Ytjcgkhcbdbbdkaa
open Go.RowKit

theorem len8_get2 (y : Int) (h : y.toNat < Lib.len8tab.size) : ((Lib.len8tab[y.toNat]'h).toNat : Int) = Lib.len8 y := by
  unfold Lib.len8
  rw [getElem?_pos Lib.len8tab y.toNat h]
  first | rfl | simp
theorem w_add (k a b : Nat) (hk : k ≤ 56) (ha : a ≤ 8) (hb : b = k + a) : wrap64 ((k : Int) + wrap64 (a : Int)) = (b : Int) := by
  unfold wrap64
  omega
theorem w_one (a : Nat) (ha : a ≤ 8) : wrap64 (a : Int) = (a : Int) := by
  unfold wrap64
  omega
theorem w_two (a : Nat) (ha : a ≤ 8) : wrap64 (wrap64 (a : Int)) = (a : Int) := by
  unfold wrap64
  omega
theorem w56 (x : Int) (h0 : 0 ≤ x) (h1 : x ≤ 18446744073709551615) (h2 : 72057594037927936 ≤ x) (h3 : x / 4294967296 / 65536 / 256 ≤ 255) (h : (x / 4294967296 / 65536 / 256).toNat < Lib.len8tab.size) : wrap64 (56 + wrap64 ((Lib.len8tab[(x / 4294967296 / 65536 / 256).toNat]'h).toNat : Int)) = (Lib.bitLen x.toNat : Int) := by
  rw [len8_get2 (x / 4294967296 / 65536 / 256), Lib.len8_of (x / 4294967296 / 65536 / 256) (by omega) h3]
  have e : (x / 4294967296 / 65536 / 256).toNat = x.toNat / 72057594037927936 := by omega
  have l := Lib.bitLen_le8' (x / 4294967296 / 65536 / 256) (by omega) h3
  have s := Lib.bitLen_shift56 x.toNat (by omega) (by omega)
  rw [e] at l ⊢
  exact w_add 56 _ _ (by decide) l s
theorem w48 (x : Int) (h0 : 0 ≤ x) (h1 : x ≤ 18446744073709551615) (h2 : 281474976710656 ≤ x) (h3 : x / 4294967296 / 65536 ≤ 255) (h : (x / 4294967296 / 65536).toNat < Lib.len8tab.size) : wrap64 (48 + wrap64 ((Lib.len8tab[(x / 4294967296 / 65536).toNat]'h).toNat : Int)) = (Lib.bitLen x.toNat : Int) := by
  rw [len8_get2 (x / 4294967296 / 65536), Lib.len8_of (x / 4294967296 / 65536) (by omega) h3]
  have e : (x / 4294967296 / 65536).toNat = x.toNat / 281474976710656 := by omega
  have l := Lib.bitLen_le8' (x / 4294967296 / 65536) (by omega) h3
  have s := Lib.bitLen_shift48 x.toNat (by omega) (by omega)
  rw [e] at l ⊢
  exact w_add 48 _ _ (by decide) l s
theorem w40 (x : Int) (h0 : 0 ≤ x) (h1 : x ≤ 18446744073709551615) (h2 : 1099511627776 ≤ x) (h3 : x / 4294967296 / 256 ≤ 255) (h : (x / 4294967296 / 256).toNat < Lib.len8tab.size) : wrap64 (40 + wrap64 ((Lib.len8tab[(x / 4294967296 / 256).toNat]'h).toNat : Int)) = (Lib.bitLen x.toNat : Int) := by
  rw [len8_get2 (x / 4294967296 / 256), Lib.len8_of (x / 4294967296 / 256) (by omega) h3]
  have e : (x / 4294967296 / 256).toNat = x.toNat / 1099511627776 := by omega
  have l := Lib.bitLen_le8' (x / 4294967296 / 256) (by omega) h3
  have s := Lib.bitLen_shift40 x.toNat (by omega) (by omega)
  rw [e] at l ⊢
  exact w_add 40 _ _ (by decide) l s
theorem w32 (x : Int) (h0 : 0 ≤ x) (h1 : x ≤ 18446744073709551615) (h2 : 4294967296 ≤ x) (h3 : x / 4294967296 ≤ 255) (h : (x / 4294967296).toNat < Lib.len8tab.size) : wrap64 (32 + wrap64 ((Lib.len8tab[(x / 4294967296).toNat]'h).toNat : Int)) = (Lib.bitLen x.toNat : Int) := by
  rw [len8_get2 (x / 4294967296), Lib.len8_of (x / 4294967296) (by omega) h3]
  have e : (x / 4294967296).toNat = x.toNat / 4294967296 := by omega
  have l := Lib.bitLen_le8' (x / 4294967296) (by omega) h3
  have s := Lib.bitLen_shift32 x.toNat (by omega) (by omega)
  rw [e] at l ⊢
  exact w_add 32 _ _ (by decide) l s
theorem w24 (x : Int) (h0 : 0 ≤ x) (h1 : x ≤ 18446744073709551615) (h2 : 16777216 ≤ x) (h3 : x / 65536 / 256 ≤ 255) (h : (x / 65536 / 256).toNat < Lib.len8tab.size) : wrap64 (24 + wrap64 ((Lib.len8tab[(x / 65536 / 256).toNat]'h).toNat : Int)) = (Lib.bitLen x.toNat : Int) := by
  rw [len8_get2 (x / 65536 / 256), Lib.len8_of (x / 65536 / 256) (by omega) h3]
  have e : (x / 65536 / 256).toNat = x.toNat / 16777216 := by omega
  have l := Lib.bitLen_le8' (x / 65536 / 256) (by omega) h3
  have s := Lib.bitLen_shift24 x.toNat (by omega) (by omega)
  rw [e] at l ⊢
  exact w_add 24 _ _ (by decide) l s
theorem w16 (x : Int) (h0 : 0 ≤ x) (h1 : x ≤ 18446744073709551615) (h2 : 65536 ≤ x) (h3 : x / 65536 ≤ 255) (h : (x / 65536).toNat < Lib.len8tab.size) : wrap64 (16 + wrap64 ((Lib.len8tab[(x / 65536).toNat]'h).toNat : Int)) = (Lib.bitLen x.toNat : Int) := by
  rw [len8_get2 (x / 65536), Lib.len8_of (x / 65536) (by omega) h3]
  have e : (x / 65536).toNat = x.toNat / 65536 := by omega
  have l := Lib.bitLen_le8' (x / 65536) (by omega) h3
  have s := Lib.bitLen_shift16 x.toNat (by omega) (by omega)
  rw [e] at l ⊢
  exact w_add 16 _ _ (by decide) l s
theorem w8 (x : Int) (h0 : 0 ≤ x) (h1 : x ≤ 18446744073709551615) (h2 : 256 ≤ x) (h3 : x / 256 ≤ 255) (h : (x / 256).toNat < Lib.len8tab.size) : wrap64 (8 + wrap64 ((Lib.len8tab[(x / 256).toNat]'h).toNat : Int)) = (Lib.bitLen x.toNat : Int) := by
  rw [len8_get2 (x / 256), Lib.len8_of (x / 256) (by omega) h3]
  have e : (x / 256).toNat = x.toNat / 256 := by omega
  have l := Lib.bitLen_le8' (x / 256) (by omega) h3
  have s := Lib.bitLen_shift8 x.toNat (by omega) (by omega)
  rw [e] at l ⊢
  exact w_add 8 _ _ (by decide) l s
theorem w0 (x : Int) (h0 : 0 ≤ x) (h3 : x ≤ 255) (h : x.toNat < Lib.len8tab.size) : wrap64 ((Lib.len8tab[x.toNat]'h).toNat : Int) = (Lib.bitLen x.toNat : Int) ∧ wrap64 (wrap64 ((Lib.len8tab[x.toNat]'h).toNat : Int)) = (Lib.bitLen x.toNat : Int) := by
  rw [len8_get2 x, Lib.len8_of x h0 h3]
  have l := Lib.bitLen_le8' x h0 h3
  exact ⟨w_one _ l, w_two _ l⟩
set_option maxRecDepth 100000 in
set_option maxHeartbeats 4000000 in
theorem len64_any (x : Int) (w : World) (h0 : 0 ≤ x) (h1 : x ≤ 18446744073709551615) {R : Ending → World → Prop}
    (hR : ∀ n, n = (Lib.bitLen x.toNat : Int) → R (.returned (.int .i64 n)) w) :
    Calls Try.prog 109 #[.int .u64 x] w R := by
  have HR := Lib.hid hR
  clear hR
  have hs : Lib.len8tab.size = 256 := by decide
  go_enter Try.func109, Try.ntmps109
  go_wp2
  all_goals refine HR.out _ ?_
  all_goals first
    | exact w56 x h0 h1 (by omega) (by omega) _
    | exact w48 x h0 h1 (by omega) (by omega) _
    | exact w40 x h0 h1 (by omega) (by omega) _
    | exact w32 x h0 h1 (by omega) (by omega) _
    | exact w24 x h0 h1 (by omega) (by omega) _
    | exact w16 x h0 h1 (by omega) (by omega) _
    | exact w8 x h0 h1 (by omega) (by omega) _
    | exact (w0 x h0 (by omega) _).1
    | exact (w0 x h0 (by omega) _).2

theorem bitLen_two (x : Nat) (h0 : 0 < x) (hx : x < 18446744073709551616) : Lib.bitLen x ≤ 64 ∧ x < 2 ^ Lib.bitLen x ∧ 2 ^ (Lib.bitLen x - 1) ≤ x := by
  refine ⟨Lib.bitLen_le x 64 (by omega) (by omega), ?_⟩
  induction x using Nat.strongRecOn with
  | _ x ih =>
    rw [Lib.bitLen_half x (by omega) (by omega)]
    by_cases h1 : x = 1
    · subst h1; decide
    · obtain ⟨i1, i2⟩ := ih (x / 2) (by omega) (by omega) (by omega)
      have hb : 1 ≤ Lib.bitLen (x / 2) := by
        rcases Nat.eq_zero_or_pos (Lib.bitLen (x / 2)) with h | h
        · rw [h] at i1; simp at i1; omega
        · exact h
      obtain ⟨m, hm⟩ : ∃ m, Lib.bitLen (x / 2) = m + 1 := ⟨Lib.bitLen (x / 2) - 1, by omega⟩
      rw [hm] at i1 i2 ⊢
      simp only [Nat.add_sub_cancel] at i2
      rw [show 1 + (m + 1) - 1 = m + 1 by omega, show 1 + (m + 1) = m + 1 + 1 by omega, Nat.pow_succ 2 (m + 1), Nat.pow_succ 2 m]
      rw [Nat.pow_succ] at i1
      omega

set_option maxRecDepth 100000 in
set_option maxHeartbeats 1000000 in
theorem lz64_any (x : Nat) (w : World) (h0 : 0 < x) (h1 : x < 18446744073709551616) {R : Ending → World → Prop}
    (hR : ∀ s : Nat, s ≤ 63 → x * 2 ^ s < 18446744073709551616 → 9223372036854775808 ≤ x * 2 ^ s → R (.returned (.int .i64 s)) w) :
    Calls Try.prog 107 #[.int .u64 x] w R := by
  obtain ⟨b1, b2, b3⟩ := bitLen_two x h0 h1
  have hb : 1 ≤ Lib.bitLen x := by
    rcases Nat.eq_zero_or_pos (Lib.bitLen x) with h | h
    · rw [h] at b2; simp at b2; omega
    · exact h
  have hR2 := Lib.hid (hR (64 - Lib.bitLen x) (by omega) (by
    have h := Nat.mul_lt_mul_of_pos_right b2 (Nat.pow_pos (n := 64 - Lib.bitLen x) (show 0 < 2 by decide))
    rw [← Nat.pow_add, show Lib.bitLen x + (64 - Lib.bitLen x) = 64 by omega] at h
    exact h) (by
    have h := Nat.mul_le_mul_right (2 ^ (64 - Lib.bitLen x)) b3
    rw [← Nat.pow_add, show Lib.bitLen x - 1 + (64 - Lib.bitLen x) = 63 by omega] at h
    exact h))
  clear hR b2 b3
  have L := Lib.hid fun (R : Ending → World → Prop) hR => len64_any (x : Int) w (by omega) (by omega) (R := R) hR
  rw [Int.toNat_natCast] at L
  generalize Lib.bitLen x = n at *
  go_enter Try.func107, Try.ntmps107
  go_wp2_with fail
  go_at_call 109
  refine L.out _ ?_
  rintro _ rfl
  have e : (64 : Int) - n = ((64 - n : Nat) : Int) := by omega
  go_wp2
  exact hR2
end Go.Proofs.Ytjcgkhcbdbbdkaa
