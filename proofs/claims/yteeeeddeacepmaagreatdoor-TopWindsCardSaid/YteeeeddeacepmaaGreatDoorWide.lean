import Derived.Test.YteeeeddeacepmaaGreatDoorBig
import Derived.Lib.Mul64
import Derived.Laws.Bits64b
import Derived.Lib.Strings
import Derived.Lib.Slices
import Derived.Lib.Small
import Derived.Lib.Walk
import Derived.Lib.BitFns
namespace Go.Proofs.YteeeeddeacepmaaGreatDoor
set_option maxRecDepth 100000
open Go.RowKit Go.Lib B
theorem mask32 (a : Nat) (ha : a < 18446744073709551616) : bits .and .u64 (a : Int) 4294967295 = ((a % 4294967296 : Nat) : Int) := by
 have h := bits_and_u64_nat a 4294967295 ha (by omega); have e : a &&& 4294967295 = a % 4294967296 := Nat.and_two_pow_sub_one_eq_mod a 32; rw [e] at h; exact h
theorem div32 (a : Nat) : (a : Int) / 4294967296 = ((a / 4294967296 : Nat) : Int) := by omega
theorem mulNI (a b : Nat) : (a : Int) * (b : Int) = ((a * b : Nat) : Int) := (Int.natCast_mul a b).symm
theorem addNI (a b : Nat) : (a : Int) + (b : Int) = ((a + b : Nat) : Int) := (Int.natCast_add a b).symm
theorem wrapNI (a : Nat) (ha : a < 18446744073709551616) : IntKind.u64.wrap (a : Int) = (a : Int) := by rw [IntKind.wrap_u64]; omega
theorem wrapMI (a : Nat) : IntKind.u64.wrap (a : Int) = ((a % 18446744073709551616 : Nat) : Int) := by rw [IntKind.wrap_u64]; omega
set_option maxHeartbeats 1000000 in
theorem mul64_any (x y : Nat) (hx : x < 18446744073709551616) (hy : y < 18446744073709551616) (w : World) {R : Ending -> World -> Prop}
  (hR : R (.returned (.tuple #[.int .u64 ((x * y / 18446744073709551616 : Nat) : Int), .int .u64 ((x * y % 18446744073709551616 : Nat) : Int)])) w) :
  Calls Tryz.prog 288 #[.int .u64 x, .int .u64 y] w R := by
 have HR := Lh hR; clear hR; obtain ⟨bd, bt, bw, hhi⟩ := Lib.mul64_hi x y hx hy; have ba := Lib.half_mul_le (a := x / 4294967296) (b := y / 4294967296) (by omega) (by omega); have bb := Lib.half_mul_le (a := x / 4294967296) (b := y % 4294967296) (by omega) (by omega); have bc := Lib.half_mul_le (a := x % 4294967296) (b := y / 4294967296) (by omega) (by omega); have ba' : x / 4294967296 * (y / 4294967296) < 18446744073709551616 := by omega
 have bb' : x / 4294967296 * (y % 4294967296) < 18446744073709551616 := by omega
 have bc' : x % 4294967296 * (y / 4294967296) < 18446744073709551616 := by omega
 have bh1 : x / 4294967296 * (y / 4294967296) + (x / 4294967296 * (y % 4294967296) + x % 4294967296 * (y % 4294967296) / 4294967296) / 4294967296 < 18446744073709551616 := by omega
 have bh : x / 4294967296 * (y / 4294967296) + (x / 4294967296 * (y % 4294967296) + x % 4294967296 * (y % 4294967296) / 4294967296) / 4294967296 + ((x / 4294967296 * (y % 4294967296) + x % 4294967296 * (y % 4294967296) / 4294967296) % 4294967296 + x % 4294967296 * (y / 4294967296)) / 4294967296 < 18446744073709551616 := by omega
 go_enter Tryz.func288, Tryz.ntmps288
 go_wp2; simp only [mask32 x hx, mask32 y hy, div32, mulNI, addNI, wrapNI _ bd, wrapNI _ bb', wrapNI _ bt, mask32 _ bt, wrapNI _ bc', wrapNI _ bw, wrapNI _ ba', wrapNI _ bh1, wrapNI _ bh, wrapMI (x * y)]; rw [hhi]
 try go_wp2
 exact HR.out
set_option maxHeartbeats 1000000 in
theorem wmul_any (x y : Nat) (hx : x < 18446744073709551616) (hy : y < 18446744073709551616) (w : World) {R : Ending -> World -> Prop}
  (hR : R (.returned (.tuple #[.int .u64 ((x * y / 18446744073709551616 : Nat) : Int), .int .u64 ((x * y % 18446744073709551616 : Nat) : Int)])) w) :
  Calls Tryz.prog 213 #[.int .u64 x, .int .u64 y] w R := by
 have C := Lh fun (R : Ending -> World -> Prop) hR => mul64_any x y hx hy w (R := R) hR
 have HR := Lh hR; clear hR; generalize x * y / 18446744073709551616 = hi at *; generalize x * y % 18446744073709551616 = lo at *; go_enter Tryz.func213, Tryz.ntmps213
 go_wp2_with fail
 go_at_call 288; refine C.out _ ?_; go_wp2; exact HR.out
set_option maxHeartbeats 1000000 in
theorem amount_any (n : Int) (hn : I64 n) (w : World) {R : Ending -> World -> Prop} (hR : R (.returned (.int .u64 (n.natAbs : Nat))) w) :
  Calls Tryz.prog 147 #[.int .i64 n] w R := by
 have HR := Lh hR; clear hR; obtain ⟨n1, n2⟩ := hn
 by_cases h0 : n < 0
 ·obtain ⟨m, hm⟩ : ∃ m : Nat, (m : Int) = -n := ⟨n.natAbs, by omega⟩
  obtain rfl : n = -(m : Int) := by omega
  have hm0 : 0 < m := by omega
  rw [show (-(m : Int)).natAbs = m by omega] at HR; have e1 : IntKind.u64.wrap (-(m : Int)) = 18446744073709551616 - m := by rw [IntKind.wrap_u64]; omega
  have e2 : IntKind.u64.wrap (-(18446744073709551616 - (m : Int))) = m := by rw [IntKind.wrap_u64]; omega
  clear hm h0; go_enter Tryz.func147, Tryz.ntmps147
  go_wp2; exact HR.out
 ·obtain ⟨m, rfl⟩ : ∃ m : Nat, n = m := ⟨n.toNat, by omega⟩
  rw [Int.natAbs_natCast] at HR; clear h0; go_enter Tryz.func147, Tryz.ntmps147
  go_wp2; exact HR.out
def cmpI' (a b : Int) : Int := if a < b then -1 else if b < a then 1 else 0
set_option maxHeartbeats 1000000 in
theorem cmpI_any (a b : Int) (w : World) {R : Ending -> World -> Prop} (hR : R (.returned (.int .i64 (cmpI' a b))) w) :
  Calls Tryz.prog 96 #[.int .i64 a, .int .i64 b] w R := by
 have HR1 : ∀ n, cmpI' a b = n -> R (.returned (.int .i64 n)) w := by rintro n rfl; exact hR
 have HR := Lh HR1; clear hR HR1
 by_cases h1 : a < b
 ·go_enter Tryz.func96, Tryz.ntmps96
  go_wp2; exact HR.out _ (by unfold cmpI'; rw [if_pos h1])
 ·by_cases h2 : b < a
  ·go_enter Tryz.func96, Tryz.ntmps96
   go_wp2; exact HR.out _ (by unfold cmpI'; rw [if_neg (by omega), if_pos h2])
  ·go_enter Tryz.func96, Tryz.ntmps96
   go_wp2; exact HR.out _ (by unfold cmpI'; rw [if_neg (by omega), if_neg (by omega)])
set_option maxHeartbeats 1000000 in
theorem cmpU_any (a b : Int) (w : World) {R : Ending -> World -> Prop} (hR : R (.returned (.int .i64 (cmpI' a b))) w) :
  Calls Tryz.prog 97 #[.int .u64 a, .int .u64 b] w R := by
 have HR1 : ∀ n, cmpI' a b = n -> R (.returned (.int .i64 n)) w := by rintro n rfl; exact hR
 have HR := Lh HR1; clear hR HR1
 by_cases h1 : a < b
 ·go_enter Tryz.func97, Tryz.ntmps97
  go_wp2; exact HR.out _ (by unfold cmpI'; rw [if_pos h1])
 ·by_cases h2 : b < a
  ·go_enter Tryz.func97, Tryz.ntmps97
   go_wp2; exact HR.out _ (by unfold cmpI'; rw [if_neg (by omega), if_pos h2])
  ·go_enter Tryz.func97, Tryz.ntmps97
   go_wp2; exact HR.out _ (by unfold cmpI'; rw [if_neg (by omega), if_neg (by omega)])
end Go.Proofs.YteeeeddeacepmaaGreatDoor
namespace Go.Proofs.YteeeeddeacepmaaGreatDoor
set_option maxRecDepth 100000
open Go.RowKit Go.Lib B
theorem cmpI'_bd (a b : Int) : cmpI' a b = -1 ∨ cmpI' a b = 0 ∨ cmpI' a b = 1 := by unfold cmpI'; split <;> (try split) <;> simp
theorem mul_bd {s t : Int} (hs : s = -1 ∨ s = 0 ∨ s = 1) (ht : t = -1 ∨ t = 0 ∨ t = 1) : s * t = -1 ∨ s * t = 0 ∨ s * t = 1 := by
 rcases hs with rfl | rfl | rfl <;> rcases ht with rfl | rfl | rfl <;> simp
def tmS (a b : Int) : Int := cmpI' a 0 * cmpI' b 0
def tmV (a b : Int) : Value := .agg #[.int .i64 (tmS a b), .int .u64 ((a.natAbs * b.natAbs / 18446744073709551616 : Nat) : Int), .int .u64 ((a.natAbs * b.natAbs % 18446744073709551616 : Nat) : Int)]
set_option maxHeartbeats 2000000 in
theorem times_any (a b : Int) (ha : I64 a) (hb : I64 b) (w : World) {R : Ending -> World -> Prop} (hR : ∀ w', Grow w w' -> R (.returned (tmV a b)) w') :
  Calls Tryz.prog 146 #[.int .i64 a, .int .i64 b] w R := by
 have C1 := Lh fun W (R : Ending -> World -> Prop) hR => cmpI_any a 0 W (R := R) hR
 have C2 := Lh fun W (R : Ending -> World -> Prop) hR => cmpI_any b 0 W (R := R) hR
 have A1 := Lh fun W (R : Ending -> World -> Prop) hR => amount_any a ha W (R := R) hR
 have A2 := Lh fun W (R : Ending -> World -> Prop) hR => amount_any b hb W (R := R) hR
 obtain ⟨a1, a2⟩ := ha; obtain ⟨b1, b2⟩ := hb; have M := Lh fun W (R : Ending -> World -> Prop) hR => wmul_any a.natAbs b.natAbs (by omega) (by omega) W (R := R) hR
 have hb1 := cmpI'_bd a 0; have hb2 := cmpI'_bd b 0; have hm := mul_bd hb1 hb2; have HR := Lh hR; clear hR; unfold tmV tmS at HR; generalize a.natAbs * b.natAbs / 18446744073709551616 = hi at *; generalize a.natAbs * b.natAbs % 18446744073709551616 = lo at *; generalize cmpI' a 0 = s at *; generalize cmpI' b 0 = t at *
 obtain ⟨m, hm1⟩ : ∃ m, s * t = m := ⟨_, rfl⟩
 rw [hm1] at HR hm; go_enter Tryz.func146, Tryz.ntmps146
 go_wp2_with fail
 go_at_call 96; refine C1.out _ _ ?_; go_wp2_with fail
 go_at_call 96; refine C2.out _ _ ?_; go_wp2_with fail
 go_at_call 147; refine A1.out _ _ ?_; go_wp2_with fail
 go_at_call 147; refine A2.out _ _ ?_; go_wp2_with fail
 go_at_call 213; refine M.out _ _ ?_; go_wp2_with fail
 refine bodyPost_ret (v := .agg #[.int .i64 m, .int .u64 (hi : Nat), .int .u64 (lo : Nat)]) (by simp [results, Tryz.f146, go_sem]) rfl (HR.out _ (((Grow.refl w).al _).al _))
def orL : List Int -> Int
 | [] => 0
 | x :: t => if x ≠ 0 then x else orL t
set_option maxHeartbeats 1000000 in
theorem or_any (l : List Int) (v : Value) (S : Nat -> Prop) (w : World) (hb : Rd w S 1 v l.length (l.map fun n => .int .i64 n)) (_hl : l.length <= 16) {R : Ending -> World -> Prop} (hR : R (.returned (.int .i64 (orL l))) w) :
  Calls Tryz.prog 95 #[v] w R := by
 have HR := Lh hR; clear hR; obtain ⟨A, c, rfl, h1, h2⟩ := rd_slice hb; have HB := Lh hb; clear hb; go_enter Tryz.func95, Tryz.ntmps95
 go_wp2
 go_loopw [8] (fun s8 wr => ∃ k : Nat, k <= l.length /\ s8 = .int .i64 k /\ Hid (orL l = orL (l.drop k)) /\ wr = w) (fun s8 _ => l.length - (Go.RowKit.intOf s8).toNat)
 case atStart => exact ⟨0, Nat.zero_le _, rfl, rfl, rfl⟩
 case round =>
  obtain ⟨k, hk, rfl, ho, rfl⟩ := hrel
  by_cases hlt : k < l.length
  ·obtain ⟨b, o, rfl, d1⟩ := rd_at HB.out (Grow.refl wr) (j := k) (u := .int .i64 (l[k]'hlt)) (by simp [hlt])
   have e : Hid (orL (l.drop k) = if (l[k]'hlt) ≠ 0 then (l[k]'hlt) else orL (l.drop (k + 1))) := by
    show _ = _; rw [List.drop_eq_getElem_cons hlt]; rfl
   generalize l[k]'hlt = x at *
   by_cases h0 : x = 0
   ·subst h0
    go_wp2; go_roundw
    case rel => exact ⟨k + 1, by omega, by go_num, by show _ = _; rw [ho.out, e.out]; rfl, by first | rfl | trivial⟩
    case measure => simp [Go.RowKit.intOf]; omega
   ·have t0 : (x != 0) = true := by simp [h0]
    have h := HR.out; rw [ho.out, e.out, if_pos h0] at h; clear h0 e; go_wp2; exact h
  ·obtain rfl : k = l.length := by omega
   have h := HR.out; rw [ho.out, List.drop_length] at h; go_wp2; exact h
def cmpW (a b c d : Int) : Int :=
 if tmS a b ≠ tmS c d ∨ tmS a b = 0 then cmpI' (tmS a b) (tmS c d)
 else tmS a b * orL [cmpI' ((a.natAbs * b.natAbs / 18446744073709551616 : Nat) : Int) ((c.natAbs * d.natAbs / 18446744073709551616 : Nat) : Int), cmpI' ((a.natAbs * b.natAbs % 18446744073709551616 : Nat) : Int) ((c.natAbs * d.natAbs % 18446744073709551616 : Nat) : Int)]
end Go.Proofs.YteeeeddeacepmaaGreatDoor
namespace Go.Proofs.YteeeeddeacepmaaGreatDoor
set_option maxRecDepth 100000
open Go.RowKit
theorem len8_get2 (y : Int) (h : y.toNat < Lib.len8tab.size) : ((Lib.len8tab[y.toNat]'h).toNat : Int) = Lib.len8 y := by
 unfold Lib.len8; rw [getElem?_pos Lib.len8tab y.toNat h]
 first | rfl | simp
theorem w_add (k a b : Nat) (hk : k <= 56) (ha : a <= 8) (hb : b = k + a) : wrap64 ((k : Int) + wrap64 (a : Int)) = (b : Int) := by
 unfold wrap64; omega
theorem w_one (a : Nat) (ha : a <= 8) : wrap64 (a : Int) = (a : Int) := by
 unfold wrap64; omega
theorem w_two (a : Nat) (ha : a <= 8) : wrap64 (wrap64 (a : Int)) = (a : Int) := by
 unfold wrap64; omega
theorem w56 (x : Int) (h0 : 0 <= x) (h1 : x <= 18446744073709551615) (h2 : 72057594037927936 <= x) (h3 : x / 4294967296 / 65536 / 256 <= 255) (h : (x / 4294967296 / 65536 / 256).toNat < Lib.len8tab.size) : wrap64 (56 + wrap64 ((Lib.len8tab[(x / 4294967296 / 65536 / 256).toNat]'h).toNat : Int)) = (Lib.bitLen x.toNat : Int) := by
 rw [len8_get2 (x / 4294967296 / 65536 / 256), Lib.len8_of (x / 4294967296 / 65536 / 256) (by omega) h3]; have e : (x / 4294967296 / 65536 / 256).toNat = x.toNat / 72057594037927936 := by omega
 have l := Lib.bitLen_le8' (x / 4294967296 / 65536 / 256) (by omega) h3; have s := Lib.bitLen_shift56 x.toNat (by omega) (by omega); rw [e] at l ⊢; exact w_add 56 _ _ (by decide) l s
theorem w48 (x : Int) (h0 : 0 <= x) (h1 : x <= 18446744073709551615) (h2 : 281474976710656 <= x) (h3 : x / 4294967296 / 65536 <= 255) (h : (x / 4294967296 / 65536).toNat < Lib.len8tab.size) : wrap64 (48 + wrap64 ((Lib.len8tab[(x / 4294967296 / 65536).toNat]'h).toNat : Int)) = (Lib.bitLen x.toNat : Int) := by
 rw [len8_get2 (x / 4294967296 / 65536), Lib.len8_of (x / 4294967296 / 65536) (by omega) h3]; have e : (x / 4294967296 / 65536).toNat = x.toNat / 281474976710656 := by omega
 have l := Lib.bitLen_le8' (x / 4294967296 / 65536) (by omega) h3; have s := Lib.bitLen_shift48 x.toNat (by omega) (by omega); rw [e] at l ⊢; exact w_add 48 _ _ (by decide) l s
theorem w40 (x : Int) (h0 : 0 <= x) (h1 : x <= 18446744073709551615) (h2 : 1099511627776 <= x) (h3 : x / 4294967296 / 256 <= 255) (h : (x / 4294967296 / 256).toNat < Lib.len8tab.size) : wrap64 (40 + wrap64 ((Lib.len8tab[(x / 4294967296 / 256).toNat]'h).toNat : Int)) = (Lib.bitLen x.toNat : Int) := by
 rw [len8_get2 (x / 4294967296 / 256), Lib.len8_of (x / 4294967296 / 256) (by omega) h3]; have e : (x / 4294967296 / 256).toNat = x.toNat / 1099511627776 := by omega
 have l := Lib.bitLen_le8' (x / 4294967296 / 256) (by omega) h3; have s := Lib.bitLen_shift40 x.toNat (by omega) (by omega); rw [e] at l ⊢; exact w_add 40 _ _ (by decide) l s
theorem w32 (x : Int) (h0 : 0 <= x) (h1 : x <= 18446744073709551615) (h2 : 4294967296 <= x) (h3 : x / 4294967296 <= 255) (h : (x / 4294967296).toNat < Lib.len8tab.size) : wrap64 (32 + wrap64 ((Lib.len8tab[(x / 4294967296).toNat]'h).toNat : Int)) = (Lib.bitLen x.toNat : Int) := by
 rw [len8_get2 (x / 4294967296), Lib.len8_of (x / 4294967296) (by omega) h3]; have e : (x / 4294967296).toNat = x.toNat / 4294967296 := by omega
 have l := Lib.bitLen_le8' (x / 4294967296) (by omega) h3; have s := Lib.bitLen_shift32 x.toNat (by omega) (by omega); rw [e] at l ⊢; exact w_add 32 _ _ (by decide) l s
theorem w24 (x : Int) (h0 : 0 <= x) (h1 : x <= 18446744073709551615) (h2 : 16777216 <= x) (h3 : x / 65536 / 256 <= 255) (h : (x / 65536 / 256).toNat < Lib.len8tab.size) : wrap64 (24 + wrap64 ((Lib.len8tab[(x / 65536 / 256).toNat]'h).toNat : Int)) = (Lib.bitLen x.toNat : Int) := by
 rw [len8_get2 (x / 65536 / 256), Lib.len8_of (x / 65536 / 256) (by omega) h3]; have e : (x / 65536 / 256).toNat = x.toNat / 16777216 := by omega
 have l := Lib.bitLen_le8' (x / 65536 / 256) (by omega) h3; have s := Lib.bitLen_shift24 x.toNat (by omega) (by omega); rw [e] at l ⊢; exact w_add 24 _ _ (by decide) l s
theorem w16 (x : Int) (h0 : 0 <= x) (h1 : x <= 18446744073709551615) (h2 : 65536 <= x) (h3 : x / 65536 <= 255) (h : (x / 65536).toNat < Lib.len8tab.size) : wrap64 (16 + wrap64 ((Lib.len8tab[(x / 65536).toNat]'h).toNat : Int)) = (Lib.bitLen x.toNat : Int) := by
 rw [len8_get2 (x / 65536), Lib.len8_of (x / 65536) (by omega) h3]; have e : (x / 65536).toNat = x.toNat / 65536 := by omega
 have l := Lib.bitLen_le8' (x / 65536) (by omega) h3; have s := Lib.bitLen_shift16 x.toNat (by omega) (by omega); rw [e] at l ⊢; exact w_add 16 _ _ (by decide) l s
theorem w8 (x : Int) (h0 : 0 <= x) (h1 : x <= 18446744073709551615) (h2 : 256 <= x) (h3 : x / 256 <= 255) (h : (x / 256).toNat < Lib.len8tab.size) : wrap64 (8 + wrap64 ((Lib.len8tab[(x / 256).toNat]'h).toNat : Int)) = (Lib.bitLen x.toNat : Int) := by
 rw [len8_get2 (x / 256), Lib.len8_of (x / 256) (by omega) h3]; have e : (x / 256).toNat = x.toNat / 256 := by omega
 have l := Lib.bitLen_le8' (x / 256) (by omega) h3; have s := Lib.bitLen_shift8 x.toNat (by omega) (by omega); rw [e] at l ⊢; exact w_add 8 _ _ (by decide) l s
theorem w0 (x : Int) (h0 : 0 <= x) (h3 : x <= 255) (h : x.toNat < Lib.len8tab.size) : wrap64 ((Lib.len8tab[x.toNat]'h).toNat : Int) = (Lib.bitLen x.toNat : Int) /\ wrap64 (wrap64 ((Lib.len8tab[x.toNat]'h).toNat : Int)) = (Lib.bitLen x.toNat : Int) := by
 rw [len8_get2 x, Lib.len8_of x h0 h3]; have l := Lib.bitLen_le8' x h0 h3; exact ⟨w_one _ l, w_two _ l⟩
set_option maxHeartbeats 4000000 in
theorem len64_any (x : Int) (w : World) (h0 : 0 <= x) (h1 : x <= 18446744073709551615) {R : Ending -> World -> Prop}
  (hR : ∀ n, n = (Lib.bitLen x.toNat : Int) -> R (.returned (.int .i64 n)) w) :
  Calls Tryz.prog 289 #[.int .u64 x] w R := by
 have HR := Lh hR; clear hR; have hs : Lib.len8tab.size = 256 := by decide
 go_enter Tryz.func289, Tryz.ntmps289
 go_wp2
 all_goals refine HR.out _ ?_
 all_goals first
  | exact w56 x h0 h1 (by omega) (by omega) _
  | exact w48 x h0 h1 (by omega) (by omega) _
  | exact w40 x h0 h1 (by omega) (by omega) _
  | exact w32 x h0 h1 (by omega) (by omega) _
  | exact w24 x h0 h1 (by omega) (by omega) _
  | exact w16 x h0 h1 (by omega) (by omega) _
  | exact w8 x h0 h1 (by omega) (by omega) _
  | exact (w0 x h0 (by omega) _).1
  | exact (w0 x h0 (by omega) _).2
theorem bitLen_two (x : Nat) (h0 : 0 < x) (hx : x < 18446744073709551616) : Lib.bitLen x <= 64 /\ x < 2 ^ Lib.bitLen x /\ 2 ^ (Lib.bitLen x - 1) <= x := by
 refine ⟨Lib.bitLen_le x 64 (by omega) (by omega), ?_⟩
 induction x using Nat.strongRecOn with
 | _ x ih =>
  rw [Lib.bitLen_half x (by omega) (by omega)]
  by_cases h1 : x = 1
  ·subst h1; decide
  ·obtain ⟨i1, i2⟩ := ih (x / 2) (by omega) (by omega) (by omega)
   have hb : 1 <= Lib.bitLen (x / 2) := by
    rcases Nat.eq_zero_or_pos (Lib.bitLen (x / 2)) with h | h
    ·rw [h] at i1; simp at i1; omega
    ·exact h
   obtain ⟨m, hm⟩ : ∃ m, Lib.bitLen (x / 2) = m + 1 := ⟨Lib.bitLen (x / 2) - 1, by omega⟩
   rw [hm] at i1 i2 ⊢; simp only [Nat.add_sub_cancel] at i2; rw [show 1 + (m + 1) - 1 = m + 1 by omega, show 1 + (m + 1) = m + 1 + 1 by omega, Nat.pow_succ 2 (m + 1), Nat.pow_succ 2 m]; rw [Nat.pow_succ] at i1; omega
set_option maxHeartbeats 1000000 in
theorem lz64_any (x : Nat) (w : World) (h0 : 0 < x) (h1 : x < 18446744073709551616) {R : Ending -> World -> Prop}
  (hR : ∀ s : Nat, s <= 63 -> x * 2 ^ s < 18446744073709551616 -> 9223372036854775808 <= x * 2 ^ s -> R (.returned (.int .i64 s)) w) :
  Calls Tryz.prog 214 #[.int .u64 x] w R := by
 obtain ⟨b1, b2, b3⟩ := bitLen_two x h0 h1
 have hb : 1 <= Lib.bitLen x := by
  rcases Nat.eq_zero_or_pos (Lib.bitLen x) with h | h
  ·rw [h] at b2; simp at b2; omega
  ·exact h
 have hR2 := Lh (hR (64 - Lib.bitLen x) (by omega) (by
  have h := Nat.mul_lt_mul_of_pos_right b2 (Nat.pow_pos (n := 64 - Lib.bitLen x) (show 0 < 2 by decide)); rw [<- Nat.pow_add, show Lib.bitLen x + (64 - Lib.bitLen x) = 64 by omega] at h
  exact h) (by
  have h := Nat.mul_le_mul_right (2 ^ (64 - Lib.bitLen x)) b3; rw [<- Nat.pow_add, show Lib.bitLen x - 1 + (64 - Lib.bitLen x) = 63 by omega] at h
  exact h))
 clear hR b2 b3; have L := Lh fun (R : Ending -> World -> Prop) hR => len64_any (x : Int) w (by omega) (by omega) (R := R) hR
 rw [Int.toNat_natCast] at L; generalize Lib.bitLen x = n at *; go_enter Tryz.func214, Tryz.ntmps214
 go_wp2_with fail
 go_at_call 289; refine L.out _ ?_; rintro _ rfl; have e : (64 : Int) - n = ((64 - n : Nat) : Int) := by omega
 go_wp2; exact hR2
end Go.Proofs.YteeeeddeacepmaaGreatDoor
namespace Go.Proofs.YteeeeddeacepmaaGreatDoor
set_option maxRecDepth 100000
set_option maxRecDepth 100000
def Est (y1 y0 un u1 q r : Nat) : Prop := q * y1 + r = un /\ (un * 4294967296 + u1) / (y1 * 4294967296 + y0) <= q
theorem est_q_lt {y1 y0 un u1 : Nat} (_h1 : 0 < y1) (hu1 : u1 < 4294967296) (hun : un < y1 * 4294967296 + y0) : (un * 4294967296 + u1) / (y1 * 4294967296 + y0) < 4294967296 := by
 rw [Nat.div_lt_iff_lt_mul (by omega)]; omega
theorem est_mul (y1 y0 q : Nat) : q * (y1 * 4294967296 + y0) = q * y1 * 4294967296 + q * y0 := by
 rw [Nat.mul_add, Nat.mul_assoc]
theorem est_start {y1 y0 un u1 : Nat} (h1 : 0 < y1) (hu1 : u1 < 4294967296) : Est y1 y0 un u1 (un / y1) (un % y1) := by
 refine ⟨by rw [Nat.mul_comm]; exact Nat.div_add_mod un y1, ?_⟩; rw [Nat.le_div_iff_mul_le h1]; have h2 := Nat.div_mul_le_self (un * 4294967296 + u1) (y1 * 4294967296 + y0); generalize (un * 4294967296 + u1) / (y1 * 4294967296 + y0) = Q at *; rw [est_mul] at h2; generalize Q * y1 = a at *; omega
theorem est_gt {y1 y0 un u1 q r : Nat} (h1 : 0 < y1) (hu1 : u1 < 4294967296) (hun : un < y1 * 4294967296 + y0) (h : Est y1 y0 un u1 q r) (ht : 4294967296 <= q ∨ 4294967296 * r + u1 < q * y0) :
  (un * 4294967296 + u1) / (y1 * 4294967296 + y0) < q := by
 rcases ht with ht | ht
 ·exact Nat.lt_of_lt_of_le (est_q_lt h1 hu1 hun) ht
 ·rw [Nat.div_lt_iff_lt_mul (by omega), est_mul, <- h.1]
  generalize q * y1 = a; omega
theorem est_step {y1 y0 un u1 q r : Nat} (h1 : 0 < y1) (hu1 : u1 < 4294967296) (hun : un < y1 * 4294967296 + y0) (h : Est y1 y0 un u1 q r) (ht : 4294967296 <= q ∨ 4294967296 * r + u1 < q * y0) :
  1 <= q /\ Est y1 y0 un u1 (q - 1) (r + y1) := by
 have hg := est_gt h1 hu1 hun h ht; have h' := h.1; unfold Est; generalize (un * 4294967296 + u1) / (y1 * 4294967296 + y0) = Q at *
 obtain ⟨q, rfl⟩ : ∃ p, q = p + 1 := ⟨q - 1, by omega⟩
 refine ⟨by omega, ?_, by simp only [Nat.add_sub_cancel]; omega⟩; rw [Nat.add_mul] at h'; simp only [Nat.add_sub_cancel]; omega
theorem est_le {y1 y0 un u1 q r : Nat} (h1 : 0 < y1) (h : Est y1 y0 un u1 q r) (ht : q * y0 <= 4294967296 * r + u1) : q = (un * 4294967296 + u1) / (y1 * 4294967296 + y0) := by
 refine Nat.le_antisymm ?_ h.2; rw [Nat.le_div_iff_mul_le (by omega), est_mul, <- h.1]; generalize q * y1 = a; omega
theorem est_break {y1 y0 un u1 q r : Nat} (h1 : 0 < y1) (h0 : y0 < 4294967296) (hun : un < y1 * 4294967296 + y0) (h : Est y1 y0 un u1 q r) (hr : 4294967296 <= r) : q = (un * 4294967296 + u1) / (y1 * 4294967296 + y0) := by
 refine est_le h1 h ?_; have h2 := h.1
 have hq : q < 4294967296 := by
  rcases Nat.lt_or_ge q 4294967296 with hq | hq
  ·exact hq
  ·exfalso
   have := Nat.mul_le_mul_right y1 hq; rw [Nat.mul_comm 4294967296] at this; generalize q * y1 = a at *; omega
 have h3 : q * y0 <= 4294967296 * 4294967296 := Nat.mul_le_mul (by omega) (by omega); generalize q * y0 = b at *; omega
theorem est_rest {U y Q : Nat} (hQ : Q = U / y) : U = Q * y + U % y := by
 rw [hQ, Nat.mul_comm (U / y)]; exact (Nat.div_add_mod U y).symm
theorem two_digits_aux {B U y u1 u0 Q1 Q0 : Nat} (hy : 0 < y) (h1 : Q1 = (U * B + u1) / y) (h0 : Q0 = ((U * B + u1) % y * B + u0) / y) :
  (U * B * B + u1 * B + u0) / y = Q1 * B + Q0 /\ (U * B * B + u1 * B + u0) % y = ((U * B + u1) % y * B + u0) % y := by
 have e1 := Nat.div_add_mod (U * B + u1) y; rw [<- h1] at e1; generalize (U * B + u1) % y = X at *
 have e : U * B * B + u1 * B + u0 = X * B + u0 + y * (Q1 * B) := by
  rw [<- Nat.mul_assoc, <- Nat.add_mul, <- e1, Nat.add_mul]; omega
 rw [e, Nat.add_mul_div_left _ _ hy, Nat.add_mul_mod_self_left, h0]; exact ⟨Nat.add_comm _ _, rfl⟩
theorem two_digits {U y u1 u0 Q1 Q0 : Nat} (hy : 0 < y) (h1 : Q1 = (U * 4294967296 + u1) / y) (h0 : Q0 = ((U * 4294967296 + u1) % y * 4294967296 + u0) / y) :
  (U * 4294967296 * 4294967296 + u1 * 4294967296 + u0) / y = Q1 * 4294967296 + Q0 /\ (U * 4294967296 * 4294967296 + u1 * 4294967296 + u0) % y = ((U * 4294967296 + u1) % y * 4294967296 + u0) % y :=
 two_digits_aux hy h1 h0
theorem shift_div (n y s : Nat) (_hy : 0 < y) : n * 2 ^ s / (y * 2 ^ s) = n / y /\ n * 2 ^ s % (y * 2 ^ s) = n % y * 2 ^ s :=
 ⟨Nat.mul_div_mul_right _ _ (Nat.pow_pos (by decide)), Nat.mul_mod_mul_right _ _ _⟩
theorem up_word (hi lo s : Nat) (hs : s <= 63) : (hi * 18446744073709551616 + lo) * 2 ^ s = (hi * 2 ^ s + lo / 2 ^ (64 - s)) * 18446744073709551616 + lo * 2 ^ s % 18446744073709551616 := by
 have e : (18446744073709551616 : Nat) = 2 ^ (64 - s) * 2 ^ s := by rw [<- Nat.pow_add, show 64 - s + s = 64 by omega]
 have h1 : lo * 2 ^ s / 18446744073709551616 = lo / 2 ^ (64 - s) := by
  rw [e]; exact Nat.mul_div_mul_right _ _ (Nat.pow_pos (by decide))
 have h2 := Nat.div_add_mod (lo * 2 ^ s) 18446744073709551616; rw [h1] at h2; rw [Nat.add_mul, Nat.add_mul, Nat.mul_right_comm, Nat.add_assoc, Nat.mul_comm (lo / 2 ^ (64 - s)), h2]
theorem up_lt {hi lo y s : Nat} (h0 : hi < y) (h2 : lo < 18446744073709551616) (hs : s <= 63) : hi * 2 ^ s + lo / 2 ^ (64 - s) < y * 2 ^ s := by
 have h := up_word hi lo s hs; have h3 : hi * 18446744073709551616 + lo < y * 18446744073709551616 := by omega
 have h4 := Nat.mul_lt_mul_of_pos_right h3 (Nat.pow_pos (n := s) (show 0 < 2 by decide)); rw [h, Nat.mul_right_comm] at h4; generalize hi * 2 ^ s + lo / 2 ^ (64 - s) = u at *; generalize y * 2 ^ s = Y at *; generalize lo * 2 ^ s % 18446744073709551616 = L at *; omega
theorem low_lt {lo s : Nat} (h2 : lo < 18446744073709551616) (hs : s <= 63) : lo / 2 ^ (64 - s) < 2 ^ s := by
 rw [Nat.div_lt_iff_lt_mul (Nat.pow_pos (by decide)), <- Nat.pow_add, show s + (64 - s) = 64 by omega]; exact h2
theorem div_whole {hi lo y s un L Y u1 u0 Q1 x Q0 z : Nat} (hs : s <= 63) (hy : 0 < y) (hun : hi * 2 ^ s + lo / 2 ^ (64 - s) = un) (hL : lo * 2 ^ s % 18446744073709551616 = L) (hY : y * 2 ^ s = Y)
  (hu1 : L / 4294967296 = u1) (hu0 : L % 4294967296 = u0) (hQ1 : Q1 = (un * 4294967296 + u1) / Y) (hx : (un * 4294967296 + u1) % Y = x) (hQ0 : Q0 = (x * 4294967296 + u0) / Y) (hz : (x * 4294967296 + u0) % Y = z) :
  (hi * 18446744073709551616 + lo) / y = Q1 * 4294967296 + Q0 /\ z / 2 ^ s = (hi * 18446744073709551616 + lo) % y := by
 have hw := up_word hi lo s hs; rw [hun, hL] at hw; obtain ⟨d1, d2⟩ := shift_div (hi * 18446744073709551616 + lo) y s hy; rw [hw, hY] at d1 d2; have hYp : 0 < Y := by rw [<- hY]; exact Nat.mul_pos hy (Nat.pow_pos (by decide))
 have e : un * 18446744073709551616 + L = un * 4294967296 * 4294967296 + u1 * 4294967296 + u0 := by omega
 rw [e] at d1 d2; rw [<- hx] at hQ0 hz; obtain ⟨t1, t2⟩ := two_digits hYp hQ1 hQ0; rw [hz] at t2; refine ⟨d1.symm.trans t1, ?_⟩; rw [<- t2, d2]; exact Nat.mul_div_cancel _ (Nat.pow_pos (by decide))
end Go.Proofs.YteeeeddeacepmaaGreatDoor
namespace Go.Proofs.YteeeeddeacepmaaGreatDoor
set_option maxRecDepth 100000
open Go.RowKit Go.Lib
theorem or_up (a b s : Nat) (hb : b < 2 ^ s) (ha : a * 2 ^ s < 18446744073709551616) (hb2 : b < 18446744073709551616) : bits .or .u64 ((a * 2 ^ s : Nat) : Int) (b : Int) = ((a * 2 ^ s + b : Nat) : Int) := by
 rw [bits_or_u64_nat _ _ ha hb2]; have h := Nat.two_pow_add_eq_or_of_lt hb a; rw [Nat.mul_comm] at h; rw [<- h]
theorem rest_wrap {un u1 P x : Nat} (h : un * 4294967296 + u1 = P + x) (hx : x < 18446744073709551616) :
  IntKind.u64.wrap (IntKind.u64.wrap (IntKind.u64.wrap ((un : Int) * 4294967296) + u1) - IntKind.u64.wrap (P : Int)) = (x : Int) := by
 simp only [IntKind.wrap_u64]; omega
theorem start_wrap {un q y1 r : Nat} (h : q * y1 + r = un) (hu : un < 18446744073709551616) : IntKind.u64.wrap ((un : Int) - IntKind.u64.wrap ((q * y1 : Nat) : Int)) = (r : Int) := by
 simp only [IntKind.wrap_u64]; omega
set_option maxHeartbeats 4000000 in
theorem div64_any (hi lo y : Nat) (w : World) (h0 : hi < y) (h1 : y < 18446744073709551616) (h2 : lo < 18446744073709551616) {R : Ending -> World -> Prop}
  (hR : ∀ w', Grow w w' -> R (.returned (.tuple #[.int .u64 ((hi * 18446744073709551616 + lo) / y : Nat), .int .u64 ((hi * 18446744073709551616 + lo) % y : Nat)])) w') :
  Calls Tryz.prog 148 #[.int .u64 hi, .int .u64 lo, .int .u64 y] w R := by
 have HR := Lh hR; clear hR; have t0 : ((y : Int) == 0) = false := by rw [beq_eq_false_iff_ne]; omega
 have t1 : decide (y <= hi) = false := decide_eq_false (by omega)
 by_cases hz : hi = 0
 ·subst hz
  rw [Nat.zero_mul, Nat.zero_add] at HR; have hy0 : ¬ y = 0 := by omega
  go_enter Tryz.func148, Tryz.ntmps148
  have hq : IntKind.u64.wrap ((lo : Int) / y) = ((lo / y : Nat) : Int) := by
   have : lo / y <= lo := Nat.div_le_self _ _; rw [<- Int.natCast_ediv]; generalize lo / y = a at *; exact IntWalk.u64_in _ (by omega)
  have hr : ((lo : Int) % y) = ((lo % y : Nat) : Int) := rfl; go_wp2
  go_quiet (fail)
  go_wp2; exact HR.out _ ((Grow.refl w).dn _)
 ·have t2 : ((hi : Int) == 0) = false := by rw [beq_eq_false_iff_ne]; omega
  have LZ := Lh fun W (R : Ending -> World -> Prop) hR => lz64_any y W (by omega) h1 (R := R) hR
  go_enter Tryz.func148, Tryz.ntmps148
  go_wp2_with fail
  go_at_call 214; refine LZ.out _ _ ?_; intro s hs1 hs2 hs3; clear LZ
  obtain ⟨Y, hY⟩ : ∃ Y, y * 2 ^ s = Y := ⟨_, rfl⟩
  obtain ⟨un, hun⟩ : ∃ un, hi * 2 ^ s + lo / 2 ^ (64 - s) = un := ⟨_, rfl⟩
  obtain ⟨L, hL⟩ : ∃ L, lo * 2 ^ s % 18446744073709551616 = L := ⟨_, rfl⟩
  obtain ⟨y1, hy1⟩ : ∃ y1, Y / 4294967296 = y1 := ⟨_, rfl⟩
  obtain ⟨y0, hy0⟩ : ∃ y0, Y % 4294967296 = y0 := ⟨_, rfl⟩
  obtain ⟨u1, hu1⟩ : ∃ u1, L / 4294967296 = u1 := ⟨_, rfl⟩
  obtain ⟨u0, hu0⟩ : ∃ u0, L % 4294967296 = u0 := ⟨_, rfl⟩
  obtain ⟨x, hx⟩ : ∃ x, (un * 4294967296 + u1) % Y = x := ⟨_, rfl⟩
  obtain ⟨z, hz⟩ : ∃ z, (x * 4294967296 + u0) % Y = z := ⟨_, rfl⟩
  have hlt := up_lt h0 h2 hs1; have hll := low_lt h2 hs1; have hup : hi * 2 ^ s < 18446744073709551616 := Nat.lt_of_le_of_lt (Nat.le_add_right _ _) (Nat.lt_trans hlt hs2); have hl64 : lo / 2 ^ (64 - s) < 18446744073709551616 := Nat.lt_of_le_of_lt (Nat.div_le_self _ _) h2; rw [hY] at hs2 hs3 hlt; rw [hun] at hlt; have hL64 : L < 18446744073709551616 := by rw [<- hL]; exact Nat.mod_lt _ (by decide)
  have e1 : IntKind.u64.wrap ((y : Int) * 2 ^ s) = (Y : Int) := by
   rw [show ((y : Int) * 2 ^ s) = ((y * 2 ^ s : Nat) : Int) by simp, hY]; exact IntWalk.u64_in _ (by omega)
  have e2 : (Y : Int) / 4294967296 = (y1 : Int) := by omega
  have e3 : bits .and .u64 (Y : Int) 4294967295 = (y0 : Int) := by rw [mask32 _ hs2, hy0]
  have e4 : bits .or .u64 (IntKind.u64.wrap ((hi : Int) * 2 ^ s)) ((lo : Int) / 2 ^ (64 - s)) = (un : Int) := by
   have a1 : IntKind.u64.wrap ((hi : Int) * 2 ^ s) = ((hi * 2 ^ s : Nat) : Int) := by
    have : ((hi * 2 ^ s : Nat) : Int) = (hi : Int) * 2 ^ s := by simp
    rw [<- this]; exact IntWalk.u64_in _ (by omega)
   have a2 : ((lo : Int) / 2 ^ (64 - s)) = ((lo / 2 ^ (64 - s) : Nat) : Int) := by simp
   rw [a1, a2, or_up _ _ _ hll hup hl64, hun]
  have e5 : IntKind.u64.wrap ((lo : Int) * 2 ^ s) = (L : Int) := by
   have : ((lo * 2 ^ s : Nat) : Int) = (lo : Int) * 2 ^ s := by simp
   rw [<- this, IntKind.wrap_u64, <- hL]; simp
  have e6 : (L : Int) / 4294967296 = (u1 : Int) := by omega
  have e7 : bits .and .u64 (L : Int) 4294967295 = (u0 : Int) := by rw [mask32 _ hL64, hu0]
  have hu1b : u1 < 4294967296 := by omega
  have hu0b : u0 < 4294967296 := by omega
  have hy1p : 2147483648 <= y1 := by omega
  have hy1b : y1 < 4294967296 := by omega
  have hy0b : y0 < 4294967296 := by omega
  have hYe : Y = y1 * 4294967296 + y0 := by omega
  have hxb : x < Y := by rw [<- hx]; exact Nat.mod_lt _ (by omega)
  have hzb : z < Y := by rw [<- hz]; exact Nat.mod_lt _ (by omega)
  obtain ⟨QQ, hQQ⟩ : ∃ QQ, (hi * 18446744073709551616 + lo) / y = QQ := ⟨_, rfl⟩
  obtain ⟨RR, hRR⟩ : ∃ RR, (hi * 18446744073709551616 + lo) % y = RR := ⟨_, rfl⟩
  have hQQb : QQ < 18446744073709551616 := by
   rw [<- hQQ, Nat.div_lt_iff_lt_mul (by omega)]; omega
  have DW : Hid (∀ Q1 Q0, Q1 = (un * 4294967296 + u1) / Y -> Q0 = (x * 4294967296 + u0) / Y -> QQ = Q1 * 4294967296 + Q0 /\ z / 2 ^ s = RR) := by
   intro Q1 Q0 h h'; have d := div_whole hs1 (by omega) hun hL hY hu1 hu0 h hx h' hz; rw [hQQ, hRR] at d; exact d
  rw [hQQ, hRR] at HR; clear hQQ hRR; have ES := Lh (est_start (y0 := y0) (un := un) (by omega : 0 < y1) hu1b); have EX := Lh (est_start (y0 := y0) (un := x) (by omega : 0 < y1) hu0b)
  obtain ⟨q, hq⟩ : ∃ q, un / y1 = q := ⟨_, rfl⟩
  obtain ⟨r, hr⟩ : ∃ r, un % y1 = r := ⟨_, rfl⟩
  obtain ⟨p, hp⟩ : ∃ p, x / y1 = p := ⟨_, rfl⟩
  obtain ⟨t, ht⟩ : ∃ t, x % y1 = t := ⟨_, rfl⟩
  have hqb : q < 18446744073709551616 := by rw [<- hq]; exact Nat.lt_of_le_of_lt (Nat.div_le_self _ _) (by omega)
  have hpb : p < 18446744073709551616 := by rw [<- hp]; exact Nat.lt_of_le_of_lt (Nat.div_le_self _ _) (by omega)
  have hrb : r < 4294967296 := by rw [<- hr]; exact Nat.lt_trans (Nat.mod_lt _ (by omega)) hy1b
  have htb : t < 4294967296 := by rw [<- ht]; exact Nat.lt_trans (Nat.mod_lt _ (by omega)) hy1b
  have e8 : IntKind.u64.wrap ((un : Int) / (y1 : Int)) = (q : Int) := by
   rw [<- Int.natCast_ediv, hq]; exact IntWalk.u64_in _ (by omega)
  have e9 : IntKind.u64.wrap ((un : Int) - IntKind.u64.wrap ((q : Int) * (y1 : Int))) = (r : Int) := by
   rw [mulNI]; exact start_wrap (by rw [<- hq, <- hr, Nat.mul_comm]; exact Nat.div_add_mod _ _) (by omega)
  have e10 : IntKind.u64.wrap ((x : Int) / (y1 : Int)) = (p : Int) := by
   rw [<- Int.natCast_ediv, hp]; exact IntWalk.u64_in _ (by omega)
  have e11 : IntKind.u64.wrap ((x : Int) - IntKind.u64.wrap ((p : Int) * (y1 : Int))) = (t : Int) := by
   rw [mulNI]; exact start_wrap (by rw [<- hp, <- ht, Nat.mul_comm]; exact Nat.div_add_mod _ _) (by omega)
  have hyz : ¬ (y1 : Int) = 0 := by omega
  rw [hq, hr] at ES; rw [hp, ht] at EX
  have RX : Hid (∀ Q1, Q1 = (un * 4294967296 + u1) / Y -> IntKind.u64.wrap (IntKind.u64.wrap (IntKind.u64.wrap ((un : Int) * 4294967296) + u1) - IntKind.u64.wrap ((Q1 : Int) * (Y : Int))) = (x : Int)) := by
   intro Q1 h; rw [mulNI]; exact rest_wrap (by rw [<- hx]; exact est_rest h) (by omega)
  have RZ : Hid (∀ Q0, Q0 = (x * 4294967296 + u0) / Y -> IntKind.u64.wrap (IntKind.u64.wrap (IntKind.u64.wrap ((x : Int) * 4294967296) + u0) - IntKind.u64.wrap ((Q0 : Int) * (Y : Int))) = (z : Int)) := by
   intro Q0 h; rw [mulNI]; exact rest_wrap (by rw [<- hz]; exact est_rest h) (by omega)
  have HYE := Lh hYe; have HLT := Lh hlt; clear hY hun hL hy1 hy0 hu1 hu0 hx hz hq hr hp ht hll hup hl64 hYe hlt; go_wp2_with fail
  clear e1 e2 e3 e4 e5 e6 e7 e8 e9
  go_loopw [15, 16] (fun s15 s16 wr => ∃ q r : Nat, s15 = .int .u64 q /\ s16 = .int .u64 r /\ Hid (Est y1 y0 un u1 q r) /\ q < 18446744073709551616 /\ r < 4294967296 /\ wr = w) (fun s15 _ _ => (Go.RowKit.intOf s15).toNat)
  case atStart => exact ⟨q, r, rfl, rfl, ES.out, hqb, hrb, rfl⟩
  case round =>
   clear ES; obtain ⟨q, r, rfl, rfl, hE, hqb2, hrb2, rfl⟩ := hrel; have S := Lh (est_step (by omega : 0 < y1) hu1b (by rw [<- HYE.out]; exact HLT.out) hE.out); have LE := Lh (est_le (by omega : 0 < y1) hE.out); have hE2 := hE.out.1
   by_cases hbig : 4294967296 <= q
   ·have t3 : decide (4294967296 <= (q : Int)) = true := by simp; omega
    obtain ⟨s1, s2⟩ := S.out (Or.inl hbig)
    obtain ⟨q', hq'⟩ : ∃ q', q - 1 = q' := ⟨_, rfl⟩
    rw [hq'] at s2; have s2 := Lh s2; have hsub : ((q : Int) - 1) = (q' : Int) := by omega
    have hq2 : q' < 18446744073709551616 := by omega
    have hqm := Lh (show q' < q by omega); have BR := Lh (est_break (by omega : 0 < y1) hy0b (by rw [<- HYE.out]; exact HLT.out) s2.out); clear S LE hE2 hE
    by_cases hbr : 4294967296 <= r + y1
    ·have t5 : decide (4294967296 <= ((r : Int) + y1)) = true := by simp; omega
     have hQ := BR.out hbr; rw [<- HYE.out] at hQ; clear BR s1 s2 hbr hq' hqm
     obtain ⟨Q1, hq1⟩ : ∃ Q1, Q1 = q' := ⟨_, rfl⟩
     subst hq1; have f1 := RX.out Q1 hQ; have hQ1 := Lh hQ; clear hQ RX; go_wp2_with fail
     clear f1 e10 e11
     go_loopw [18, 16] (fun s18 s16 wv => ∃ q r : Nat, s18 = .int .u64 q /\ s16 = .int .u64 r /\ Hid (Est y1 y0 x u0 q r) /\ q < 18446744073709551616 /\ r < 4294967296 /\ wv = wr) (fun s18 _ _ => (Go.RowKit.intOf s18).toNat)
     case atStart => exact ⟨p, t, rfl, rfl, EX.out, hpb, htb, rfl⟩
     case round =>
      clear EX; obtain ⟨q, r, rfl, rfl, hE, hqb2, hrb2, rfl⟩ := hrel; have S := Lh (est_step (by omega : 0 < y1) hu0b (by rw [<- HYE.out]; exact hxb) hE.out); have LE := Lh (est_le (by omega : 0 < y1) hE.out); have hE2 := hE.out.1
      by_cases hbig : 4294967296 <= q
      ·have t3 : decide (4294967296 <= (q : Int)) = true := by simp; omega
       obtain ⟨s1, s2⟩ := S.out (Or.inl hbig)
       obtain ⟨q', hq'⟩ : ∃ q', q - 1 = q' := ⟨_, rfl⟩
       rw [hq'] at s2; have s2 := Lh s2; have hsub : ((q : Int) - 1) = (q' : Int) := by omega
       have hq2 : q' < 18446744073709551616 := by omega
       have hqm := Lh (show q' < q by omega); have BR := Lh (est_break (by omega : 0 < y1) hy0b (by rw [<- HYE.out]; exact hxb) s2.out); clear S LE hE2 hE
       by_cases hbr : 4294967296 <= r + y1
       ·have t5 : decide (4294967296 <= ((r : Int) + y1)) = true := by simp; omega
        have hQ := BR.out hbr; rw [<- HYE.out] at hQ; clear BR s1 s2 hbr hq' hqm; obtain ⟨d1, d2⟩ := DW.out _ _ hQ1.out hQ; have f2 := RZ.out _ hQ; have g3 : (z : Int) / 2 ^ s = (RR : Int) := by rw [<- d2]; simp
        have g1 : IntKind.u64.wrap (IntKind.u64.wrap ((Q1 : Int) * 4294967296) + q') = (QQ : Int) := by
         simp only [IntKind.wrap_u64]; omega
        have g1a : IntKind.u64.wrap ((Q1 : Int) * 4294967296 + q') = (QQ : Int) := by
         simp only [IntKind.wrap_u64]; omega
        have g1b : ((Q1 : Int) * 4294967296 + q') = (QQ : Int) := by omega
        clear d1 d2 hQ RZ DW; go_wp2; exact HR.out _ (Grow.refl _)
       ·have t5 : decide (4294967296 <= ((r : Int) + y1)) = false := by simp; omega
        clear BR s1 hq'; go_wp2_with fail
        go_roundw
        case rel => exact ⟨q', r + y1, by go_num, by go_num, s2.out, by omega, by omega, by first | rfl | trivial⟩
        case measure => have := hqm.out; simp [Go.RowKit.intOf]; omega
      ·have t3 : decide (4294967296 <= (q : Int)) = false := by simp; omega
       obtain ⟨m, hm⟩ : ∃ m, q * y0 = m := ⟨_, rfl⟩
       have hmb : m < 18446744073709551616 := by
        rw [<- hm]; exact Nat.lt_of_le_of_lt (Nat.mul_le_mul (show q <= 4294967295 by omega) (show y0 <= 4294967295 by omega)) (by decide)
       rw [hm] at S LE; have hmw : IntKind.u64.wrap ((q : Int) * (y0 : Int)) = (m : Int) := by rw [mulNI, hm]; exact IntWalk.u64_in _ (by omega)
       by_cases hcm : 4294967296 * r + u0 < m
       ·have t4 : decide (4294967296 * (r : Int) + u0 < m) = true := by simp; omega
        obtain ⟨s1, s2⟩ := S.out (Or.inr hcm); clear hm; have hmw := hmw
        obtain ⟨q', hq'⟩ : ∃ q', q - 1 = q' := ⟨_, rfl⟩
        rw [hq'] at s2; have s2 := Lh s2; have hsub : ((q : Int) - 1) = (q' : Int) := by omega
        have hq2 : q' < 18446744073709551616 := by omega
        have hqm := Lh (show q' < q by omega); have BR := Lh (est_break (by omega : 0 < y1) hy0b (by rw [<- HYE.out]; exact hxb) s2.out); clear S LE hE2 hE
        by_cases hbr : 4294967296 <= r + y1
        ·have t5 : decide (4294967296 <= ((r : Int) + y1)) = true := by simp; omega
         have hQ := BR.out hbr; rw [<- HYE.out] at hQ; clear BR s1 s2 hbr hq' hqm; obtain ⟨d1, d2⟩ := DW.out _ _ hQ1.out hQ; have f2 := RZ.out _ hQ; have g3 : (z : Int) / 2 ^ s = (RR : Int) := by rw [<- d2]; simp
         have g1 : IntKind.u64.wrap (IntKind.u64.wrap ((Q1 : Int) * 4294967296) + q') = (QQ : Int) := by
          simp only [IntKind.wrap_u64]; omega
         have g1a : IntKind.u64.wrap ((Q1 : Int) * 4294967296 + q') = (QQ : Int) := by
          simp only [IntKind.wrap_u64]; omega
         have g1b : ((Q1 : Int) * 4294967296 + q') = (QQ : Int) := by omega
         clear d1 d2 hQ RZ DW; go_wp2; exact HR.out _ (Grow.refl _)
        ·have t5 : decide (4294967296 <= ((r : Int) + y1)) = false := by simp; omega
         clear BR s1 hq'; go_wp2_with fail
         go_roundw
         case rel => exact ⟨q', r + y1, by go_num, by go_num, s2.out, by omega, by omega, by first | rfl | trivial⟩
         case measure => have := hqm.out; simp [Go.RowKit.intOf]; omega
       ·have t4 : decide (4294967296 * (r : Int) + u0 < m) = false := by simp; omega
        have hQ := LE.out (by omega); rw [<- HYE.out] at hQ; clear S LE hE2 hE hm; obtain ⟨d1, d2⟩ := DW.out _ _ hQ1.out hQ; have f2 := RZ.out _ hQ; have g3 : (z : Int) / 2 ^ s = (RR : Int) := by rw [<- d2]; simp
        have g1 : IntKind.u64.wrap (IntKind.u64.wrap ((Q1 : Int) * 4294967296) + q) = (QQ : Int) := by
         simp only [IntKind.wrap_u64]; omega
        have g1a : IntKind.u64.wrap ((Q1 : Int) * 4294967296 + q) = (QQ : Int) := by
         simp only [IntKind.wrap_u64]; omega
        have g1b : ((Q1 : Int) * 4294967296 + q) = (QQ : Int) := by omega
        clear d1 d2 hQ RZ DW; go_wp2; exact HR.out _ (Grow.refl _)
    ·have t5 : decide (4294967296 <= ((r : Int) + y1)) = false := by simp; omega
     clear BR s1 hq'; go_wp2_with fail
     go_roundw
     case rel => exact ⟨q', r + y1, by go_num, by go_num, s2.out, by omega, by omega, by first | rfl | trivial⟩
     case measure => have := hqm.out; simp [Go.RowKit.intOf]; omega
   ·have t3 : decide (4294967296 <= (q : Int)) = false := by simp; omega
    obtain ⟨m, hm⟩ : ∃ m, q * y0 = m := ⟨_, rfl⟩
    have hmb : m < 18446744073709551616 := by
     rw [<- hm]; exact Nat.lt_of_le_of_lt (Nat.mul_le_mul (show q <= 4294967295 by omega) (show y0 <= 4294967295 by omega)) (by decide)
    rw [hm] at S LE; have hmw : IntKind.u64.wrap ((q : Int) * (y0 : Int)) = (m : Int) := by rw [mulNI, hm]; exact IntWalk.u64_in _ (by omega)
    by_cases hcm : 4294967296 * r + u1 < m
    ·have t4 : decide (4294967296 * (r : Int) + u1 < m) = true := by simp; omega
     obtain ⟨s1, s2⟩ := S.out (Or.inr hcm); clear hm; have hmw := hmw
     obtain ⟨q', hq'⟩ : ∃ q', q - 1 = q' := ⟨_, rfl⟩
     rw [hq'] at s2; have s2 := Lh s2; have hsub : ((q : Int) - 1) = (q' : Int) := by omega
     have hq2 : q' < 18446744073709551616 := by omega
     have hqm := Lh (show q' < q by omega); have BR := Lh (est_break (by omega : 0 < y1) hy0b (by rw [<- HYE.out]; exact HLT.out) s2.out); clear S LE hE2 hE
     by_cases hbr : 4294967296 <= r + y1
     ·have t5 : decide (4294967296 <= ((r : Int) + y1)) = true := by simp; omega
      have hQ := BR.out hbr; rw [<- HYE.out] at hQ; clear BR s1 s2 hbr hq' hqm
      obtain ⟨Q1, hq1⟩ : ∃ Q1, Q1 = q' := ⟨_, rfl⟩
      subst hq1; have f1 := RX.out Q1 hQ; have hQ1 := Lh hQ; clear hQ RX; go_wp2_with fail
      clear f1 e10 e11
      go_loopw [18, 16] (fun s18 s16 wv => ∃ q r : Nat, s18 = .int .u64 q /\ s16 = .int .u64 r /\ Hid (Est y1 y0 x u0 q r) /\ q < 18446744073709551616 /\ r < 4294967296 /\ wv = wr) (fun s18 _ _ => (Go.RowKit.intOf s18).toNat)
      case atStart => exact ⟨p, t, rfl, rfl, EX.out, hpb, htb, rfl⟩
      case round =>
       clear EX; obtain ⟨q, r, rfl, rfl, hE, hqb2, hrb2, rfl⟩ := hrel; have S := Lh (est_step (by omega : 0 < y1) hu0b (by rw [<- HYE.out]; exact hxb) hE.out); have LE := Lh (est_le (by omega : 0 < y1) hE.out); have hE2 := hE.out.1
       by_cases hbig : 4294967296 <= q
       ·have t3 : decide (4294967296 <= (q : Int)) = true := by simp; omega
        obtain ⟨s1, s2⟩ := S.out (Or.inl hbig)
        obtain ⟨q', hq'⟩ : ∃ q', q - 1 = q' := ⟨_, rfl⟩
        rw [hq'] at s2; have s2 := Lh s2; have hsub : ((q : Int) - 1) = (q' : Int) := by omega
        have hq2 : q' < 18446744073709551616 := by omega
        have hqm := Lh (show q' < q by omega); have BR := Lh (est_break (by omega : 0 < y1) hy0b (by rw [<- HYE.out]; exact hxb) s2.out); clear S LE hE2 hE
        by_cases hbr : 4294967296 <= r + y1
        ·have t5 : decide (4294967296 <= ((r : Int) + y1)) = true := by simp; omega
         have hQ := BR.out hbr; rw [<- HYE.out] at hQ; clear BR s1 s2 hbr hq' hqm; obtain ⟨d1, d2⟩ := DW.out _ _ hQ1.out hQ; have f2 := RZ.out _ hQ; have g3 : (z : Int) / 2 ^ s = (RR : Int) := by rw [<- d2]; simp
         have g1 : IntKind.u64.wrap (IntKind.u64.wrap ((Q1 : Int) * 4294967296) + q') = (QQ : Int) := by
          simp only [IntKind.wrap_u64]; omega
         have g1a : IntKind.u64.wrap ((Q1 : Int) * 4294967296 + q') = (QQ : Int) := by
          simp only [IntKind.wrap_u64]; omega
         have g1b : ((Q1 : Int) * 4294967296 + q') = (QQ : Int) := by omega
         clear d1 d2 hQ RZ DW; go_wp2; exact HR.out _ (Grow.refl _)
        ·have t5 : decide (4294967296 <= ((r : Int) + y1)) = false := by simp; omega
         clear BR s1 hq'; go_wp2_with fail
         go_roundw
         case rel => exact ⟨q', r + y1, by go_num, by go_num, s2.out, by omega, by omega, by first | rfl | trivial⟩
         case measure => have := hqm.out; simp [Go.RowKit.intOf]; omega
       ·have t3 : decide (4294967296 <= (q : Int)) = false := by simp; omega
        obtain ⟨m, hm⟩ : ∃ m, q * y0 = m := ⟨_, rfl⟩
        have hmb : m < 18446744073709551616 := by
         rw [<- hm]; exact Nat.lt_of_le_of_lt (Nat.mul_le_mul (show q <= 4294967295 by omega) (show y0 <= 4294967295 by omega)) (by decide)
        rw [hm] at S LE; have hmw : IntKind.u64.wrap ((q : Int) * (y0 : Int)) = (m : Int) := by rw [mulNI, hm]; exact IntWalk.u64_in _ (by omega)
        by_cases hcm : 4294967296 * r + u0 < m
        ·have t4 : decide (4294967296 * (r : Int) + u0 < m) = true := by simp; omega
         obtain ⟨s1, s2⟩ := S.out (Or.inr hcm); clear hm; have hmw := hmw
         obtain ⟨q', hq'⟩ : ∃ q', q - 1 = q' := ⟨_, rfl⟩
         rw [hq'] at s2; have s2 := Lh s2; have hsub : ((q : Int) - 1) = (q' : Int) := by omega
         have hq2 : q' < 18446744073709551616 := by omega
         have hqm := Lh (show q' < q by omega); have BR := Lh (est_break (by omega : 0 < y1) hy0b (by rw [<- HYE.out]; exact hxb) s2.out); clear S LE hE2 hE
         by_cases hbr : 4294967296 <= r + y1
         ·have t5 : decide (4294967296 <= ((r : Int) + y1)) = true := by simp; omega
          have hQ := BR.out hbr; rw [<- HYE.out] at hQ; clear BR s1 s2 hbr hq' hqm; obtain ⟨d1, d2⟩ := DW.out _ _ hQ1.out hQ; have f2 := RZ.out _ hQ; have g3 : (z : Int) / 2 ^ s = (RR : Int) := by rw [<- d2]; simp
          have g1 : IntKind.u64.wrap (IntKind.u64.wrap ((Q1 : Int) * 4294967296) + q') = (QQ : Int) := by
           simp only [IntKind.wrap_u64]; omega
          have g1a : IntKind.u64.wrap ((Q1 : Int) * 4294967296 + q') = (QQ : Int) := by
           simp only [IntKind.wrap_u64]; omega
          have g1b : ((Q1 : Int) * 4294967296 + q') = (QQ : Int) := by omega
          clear d1 d2 hQ RZ DW; go_wp2; exact HR.out _ (Grow.refl _)
         ·have t5 : decide (4294967296 <= ((r : Int) + y1)) = false := by simp; omega
          clear BR s1 hq'; go_wp2_with fail
          go_roundw
          case rel => exact ⟨q', r + y1, by go_num, by go_num, s2.out, by omega, by omega, by first | rfl | trivial⟩
          case measure => have := hqm.out; simp [Go.RowKit.intOf]; omega
        ·have t4 : decide (4294967296 * (r : Int) + u0 < m) = false := by simp; omega
         have hQ := LE.out (by omega); rw [<- HYE.out] at hQ; clear S LE hE2 hE hm; obtain ⟨d1, d2⟩ := DW.out _ _ hQ1.out hQ; have f2 := RZ.out _ hQ; have g3 : (z : Int) / 2 ^ s = (RR : Int) := by rw [<- d2]; simp
         have g1 : IntKind.u64.wrap (IntKind.u64.wrap ((Q1 : Int) * 4294967296) + q) = (QQ : Int) := by
          simp only [IntKind.wrap_u64]; omega
         have g1a : IntKind.u64.wrap ((Q1 : Int) * 4294967296 + q) = (QQ : Int) := by
          simp only [IntKind.wrap_u64]; omega
         have g1b : ((Q1 : Int) * 4294967296 + q) = (QQ : Int) := by omega
         clear d1 d2 hQ RZ DW; go_wp2; exact HR.out _ (Grow.refl _)
     ·have t5 : decide (4294967296 <= ((r : Int) + y1)) = false := by simp; omega
      clear BR s1 hq'; go_wp2_with fail
      go_roundw
      case rel => exact ⟨q', r + y1, by go_num, by go_num, s2.out, by omega, by omega, by first | rfl | trivial⟩
      case measure => have := hqm.out; simp [Go.RowKit.intOf]; omega
    ·have t4 : decide (4294967296 * (r : Int) + u1 < m) = false := by simp; omega
     have hQ := LE.out (by omega); rw [<- HYE.out] at hQ; clear S LE hE2 hE hm
     obtain ⟨Q1, hq1⟩ : ∃ Q1, Q1 = q := ⟨_, rfl⟩
     subst hq1; have f1 := RX.out Q1 hQ; have hQ1 := Lh hQ; clear hQ RX; go_wp2_with fail
     clear f1 e10 e11
     go_loopw [18, 16] (fun s18 s16 wv => ∃ q r : Nat, s18 = .int .u64 q /\ s16 = .int .u64 r /\ Hid (Est y1 y0 x u0 q r) /\ q < 18446744073709551616 /\ r < 4294967296 /\ wv = wr) (fun s18 _ _ => (Go.RowKit.intOf s18).toNat)
     case atStart => exact ⟨p, t, rfl, rfl, EX.out, hpb, htb, rfl⟩
     case round =>
      clear EX; obtain ⟨q, r, rfl, rfl, hE, hqb2, hrb2, rfl⟩ := hrel; have S := Lh (est_step (by omega : 0 < y1) hu0b (by rw [<- HYE.out]; exact hxb) hE.out); have LE := Lh (est_le (by omega : 0 < y1) hE.out); have hE2 := hE.out.1
      by_cases hbig : 4294967296 <= q
      ·have t3 : decide (4294967296 <= (q : Int)) = true := by simp; omega
       obtain ⟨s1, s2⟩ := S.out (Or.inl hbig)
       obtain ⟨q', hq'⟩ : ∃ q', q - 1 = q' := ⟨_, rfl⟩
       rw [hq'] at s2; have s2 := Lh s2; have hsub : ((q : Int) - 1) = (q' : Int) := by omega
       have hq2 : q' < 18446744073709551616 := by omega
       have hqm := Lh (show q' < q by omega); have BR := Lh (est_break (by omega : 0 < y1) hy0b (by rw [<- HYE.out]; exact hxb) s2.out); clear S LE hE2 hE
       by_cases hbr : 4294967296 <= r + y1
       ·have t5 : decide (4294967296 <= ((r : Int) + y1)) = true := by simp; omega
        have hQ := BR.out hbr; rw [<- HYE.out] at hQ; clear BR s1 s2 hbr hq' hqm; obtain ⟨d1, d2⟩ := DW.out _ _ hQ1.out hQ; have f2 := RZ.out _ hQ; have g3 : (z : Int) / 2 ^ s = (RR : Int) := by rw [<- d2]; simp
        have g1 : IntKind.u64.wrap (IntKind.u64.wrap ((Q1 : Int) * 4294967296) + q') = (QQ : Int) := by
         simp only [IntKind.wrap_u64]; omega
        have g1a : IntKind.u64.wrap ((Q1 : Int) * 4294967296 + q') = (QQ : Int) := by
         simp only [IntKind.wrap_u64]; omega
        have g1b : ((Q1 : Int) * 4294967296 + q') = (QQ : Int) := by omega
        clear d1 d2 hQ RZ DW; go_wp2; exact HR.out _ (Grow.refl _)
       ·have t5 : decide (4294967296 <= ((r : Int) + y1)) = false := by simp; omega
        clear BR s1 hq'; go_wp2_with fail
        go_roundw
        case rel => exact ⟨q', r + y1, by go_num, by go_num, s2.out, by omega, by omega, by first | rfl | trivial⟩
        case measure => have := hqm.out; simp [Go.RowKit.intOf]; omega
      ·have t3 : decide (4294967296 <= (q : Int)) = false := by simp; omega
       obtain ⟨m, hm⟩ : ∃ m, q * y0 = m := ⟨_, rfl⟩
       have hmb : m < 18446744073709551616 := by
        rw [<- hm]; exact Nat.lt_of_le_of_lt (Nat.mul_le_mul (show q <= 4294967295 by omega) (show y0 <= 4294967295 by omega)) (by decide)
       rw [hm] at S LE; have hmw : IntKind.u64.wrap ((q : Int) * (y0 : Int)) = (m : Int) := by rw [mulNI, hm]; exact IntWalk.u64_in _ (by omega)
       by_cases hcm : 4294967296 * r + u0 < m
       ·have t4 : decide (4294967296 * (r : Int) + u0 < m) = true := by simp; omega
        obtain ⟨s1, s2⟩ := S.out (Or.inr hcm); clear hm; have hmw := hmw
        obtain ⟨q', hq'⟩ : ∃ q', q - 1 = q' := ⟨_, rfl⟩
        rw [hq'] at s2; have s2 := Lh s2; have hsub : ((q : Int) - 1) = (q' : Int) := by omega
        have hq2 : q' < 18446744073709551616 := by omega
        have hqm := Lh (show q' < q by omega); have BR := Lh (est_break (by omega : 0 < y1) hy0b (by rw [<- HYE.out]; exact hxb) s2.out); clear S LE hE2 hE
        by_cases hbr : 4294967296 <= r + y1
        ·have t5 : decide (4294967296 <= ((r : Int) + y1)) = true := by simp; omega
         have hQ := BR.out hbr; rw [<- HYE.out] at hQ; clear BR s1 s2 hbr hq' hqm; obtain ⟨d1, d2⟩ := DW.out _ _ hQ1.out hQ; have f2 := RZ.out _ hQ; have g3 : (z : Int) / 2 ^ s = (RR : Int) := by rw [<- d2]; simp
         have g1 : IntKind.u64.wrap (IntKind.u64.wrap ((Q1 : Int) * 4294967296) + q') = (QQ : Int) := by
          simp only [IntKind.wrap_u64]; omega
         have g1a : IntKind.u64.wrap ((Q1 : Int) * 4294967296 + q') = (QQ : Int) := by
          simp only [IntKind.wrap_u64]; omega
         have g1b : ((Q1 : Int) * 4294967296 + q') = (QQ : Int) := by omega
         clear d1 d2 hQ RZ DW; go_wp2; exact HR.out _ (Grow.refl _)
        ·have t5 : decide (4294967296 <= ((r : Int) + y1)) = false := by simp; omega
         clear BR s1 hq'; go_wp2_with fail
         go_roundw
         case rel => exact ⟨q', r + y1, by go_num, by go_num, s2.out, by omega, by omega, by first | rfl | trivial⟩
         case measure => have := hqm.out; simp [Go.RowKit.intOf]; omega
       ·have t4 : decide (4294967296 * (r : Int) + u0 < m) = false := by simp; omega
        have hQ := LE.out (by omega); rw [<- HYE.out] at hQ; clear S LE hE2 hE hm; obtain ⟨d1, d2⟩ := DW.out _ _ hQ1.out hQ; have f2 := RZ.out _ hQ; have g3 : (z : Int) / 2 ^ s = (RR : Int) := by rw [<- d2]; simp
        have g1 : IntKind.u64.wrap (IntKind.u64.wrap ((Q1 : Int) * 4294967296) + q) = (QQ : Int) := by
         simp only [IntKind.wrap_u64]; omega
        have g1a : IntKind.u64.wrap ((Q1 : Int) * 4294967296 + q) = (QQ : Int) := by
         simp only [IntKind.wrap_u64]; omega
        have g1b : ((Q1 : Int) * 4294967296 + q) = (QQ : Int) := by omega
        clear d1 d2 hQ RZ DW; go_wp2; exact HR.out _ (Grow.refl _)
end Go.Proofs.YteeeeddeacepmaaGreatDoor
namespace Go.Proofs.YteeeeddeacepmaaGreatDoor
set_option maxRecDepth 100000
open Go.RowKit Go.Lib B
def mdS (s : Int) (P d : Nat) (u : Int) : Int × Nat × Int :=
 if d = 0 then (0, 0, 1)
 else if d <= P / 18446744073709551616 then (0, 0, 8)
 else if 0 <= s * u then (if 9223372036854775807 < P / d then (0, 0, 8) else (((P / d : Nat) : Int), P % d, 0))
 else if 0 < P % d then (if P / d = 18446744073709551615 then (0, 0, 8) else if 9223372036854775808 < P / d + 1 then (0, 0, 8) else (-((P / d : Nat) : Int) - 1, d - P % d, 0))
 else if 9223372036854775808 < P / d then (0, 0, 8) else (-((P / d : Nat) : Int), P % d, 0)
set_option maxHeartbeats 4000000 in
theorem mulDiv_any (a b c : Int) (ha : I64 a) (hb : I64 b) (hc : I64 c) (w : World) {R : Ending -> World -> Prop}
  (hR : ∀ w' q r e, Grow w w' -> mdS (tmS a b) (a.natAbs * b.natAbs) c.natAbs (cmpI' c 0) = (q, r, e) -> R (.returned (.tuple #[.int .i64 q, .int .u64 (r : Nat), .int .i64 e])) w') :
  Calls Tryz.prog 100 #[.int .i64 a, .int .i64 b, .int .i64 c] w R := by
 have T := Lh fun W (R : Ending -> World -> Prop) hR => times_any a b ha hb W (R := R) hR
 have A := Lh fun W (R : Ending -> World -> Prop) hR => amount_any c hc W (R := R) hR
 have C := Lh fun W (R : Ending -> World -> Prop) hR => cmpI_any c 0 W (R := R) hR
 have hs : tmS a b = -1 ∨ tmS a b = 0 ∨ tmS a b = 1 := mul_bd (cmpI'_bd _ _) (cmpI'_bd _ _); have hu := cmpI'_bd c 0; have hm := mul_bd hs hu; have HR := Lh hR; clear hR; unfold tmV at T; unfold mdS at HR; have hdb : c.natAbs < 18446744073709551616 := by obtain ⟨c1, c2⟩ := hc; omega
 have hd0 : c = 0 ↔ c.natAbs = 0 := by omega
 obtain ⟨d, hd⟩ : ∃ d, c.natAbs = d := ⟨_, rfl⟩
 obtain ⟨P, hP⟩ : ∃ P, a.natAbs * b.natAbs = P := ⟨_, rfl⟩
 rw [hd] at HR A hdb hd0; rw [hP] at HR T; clear hd hP ha hb hc; generalize tmS a b = s at *; generalize cmpI' c 0 = u at *
 obtain ⟨m, hmm⟩ : ∃ m, s * u = m := ⟨_, rfl⟩
 rw [hmm] at HR hm
 by_cases h0 : d = 0
 ·obtain rfl : c = 0 := hd0.2 h0
  have h := HR.out w 0 0 1 (Grow.refl w) (by rw [if_pos h0]); clear HR hs hu hm hd0 h0 hmm; go_enter Tryz.func100, Tryz.ntmps100
  go_wp2; exact h
 ·have t0 : (c == 0) = false := by rw [beq_eq_false_iff_ne]; intro e; exact h0 (hd0.1 e)
  rw [if_neg h0] at HR
  obtain ⟨hi, hhi⟩ : ∃ hi, P / 18446744073709551616 = hi := ⟨_, rfl⟩
  obtain ⟨lo, hlo⟩ : ∃ lo, P % 18446744073709551616 = lo := ⟨_, rfl⟩
  have hlb : lo < 18446744073709551616 := by omega
  have hPe : hi * 18446744073709551616 + lo = P := by omega
  rw [hhi, hlo] at T; rw [hhi] at HR; clear hd0 hhi hlo
  by_cases hbig : d <= hi
  ·have t1 : decide (d <= hi) = true := decide_eq_true hbig
   have h := Lh fun w' g => HR.out w' 0 0 8 g (by rw [if_pos hbig])
   clear HR hs hu hm hbig hmm; go_enter Tryz.func100, Tryz.ntmps100
   go_wp2_with fail
   go_at_call 146; refine T.out _ _ ?_; intro w1 hg1; have G1 := Lh hg1; clear hg1; go_wp2_with fail
   go_at_call 147; refine A.out _ _ ?_; go_wp2_with fail
   exact h.out _ (G1.out.al _)
  ·have t1 : decide (d <= hi) = false := decide_eq_false hbig
   rw [if_neg hbig] at HR; have D := Lh fun W (R : Ending -> World -> Prop) hR => div64_any hi lo d W (by omega) hdb hlb (R := R) hR
   rw [hPe] at D
   have hnb : P / d < 18446744073709551616 := by
    rw [Nat.div_lt_iff_lt_mul (by omega)]; omega
   have hrb : P % d < d := Nat.mod_lt _ (by omega); generalize P / d = n at *; generalize P % d = r at *; clear hPe hbig
   by_cases hsg : 0 <= m
   ·rw [if_pos hsg] at HR
    have t2 : decide (0 <= m) = true := decide_eq_true hsg
    by_cases hn : 9223372036854775807 < n
    ·have h := Lh fun w' g => HR.out w' 0 0 8 g (by rw [if_pos hn])
     clear HR; go_enter Tryz.func100, Tryz.ntmps100
     go_wp2_with fail
     go_at_call 146; refine T.out _ _ ?_; intro w1 hg1; have G1 := Lh hg1; clear hg1; go_wp2_with fail
     go_at_call 147; refine A.out _ _ ?_; go_wp2_with fail
     go_at_call 148; refine D.out _ _ ?_; intro w2 hg2; have G2 := Lh ((G1.out.al (.cells #[.int .i64 s, .int .u64 (hi : Nat), .int .u64 (lo : Nat)] 257)).tr hg2); have K2 := Lh (blk_al _ _ _ hg2); clear hg2; go_wp2_with fail
     refine wp_region_lexT (Grow w2) ((Grow.refl w2).dr) 4 [0, 1, 2, 3] (by kernel_rfl) (by kernel_rfl) (by intro c a d v w h; cases d <;> exact h) ?_
     iterate 3 (apply lext_take; exact rfl; exact rfl; (intro W hW; have z0 := cell_of_row _ w1.heap.size 0 _ _ (0, 0) (grow_blk hW K2.out); (try clear hW); go_simp; with_reducible rfl); try simp only [Act.put, sA, sZ, sS])
     apply lext_turn; exact rfl; exact rfl; exact rfl; intro K hK; go_simp; go_at_call 96; refine C.out _ _ ?_; refine hK.out _ _ (Grow.refl w2).dr ?_; clear hK
     try simp only [Act.put, sA, sZ, sS]
     refine lext_nil ?_; simp only [List.drop_succ_cons, List.drop_zero]; go_wp2; exact h.out _ (G2.out.tr (Grow.refl w2).dr)
    ·have h := Lh fun w' g => HR.out w' n r 0 g (by rw [if_neg hn])
     clear HR; go_enter Tryz.func100, Tryz.ntmps100
     go_wp2_with fail
     go_at_call 146; refine T.out _ _ ?_; intro w1 hg1; have G1 := Lh hg1; clear hg1; go_wp2_with fail
     go_at_call 147; refine A.out _ _ ?_; go_wp2_with fail
     go_at_call 148; refine D.out _ _ ?_; intro w2 hg2; have G2 := Lh ((G1.out.al (.cells #[.int .i64 s, .int .u64 (hi : Nat), .int .u64 (lo : Nat)] 257)).tr hg2); have K2 := Lh (blk_al _ _ _ hg2); clear hg2; go_wp2_with fail
     refine wp_region_lexT (Grow w2) ((Grow.refl w2).dr) 4 [0, 1, 2, 3] (by kernel_rfl) (by kernel_rfl) (by intro c a d v w h; cases d <;> exact h) ?_
     iterate 3 (apply lext_take; exact rfl; exact rfl; (intro W hW; have z0 := cell_of_row _ w1.heap.size 0 _ _ (0, 0) (grow_blk hW K2.out); (try clear hW); go_simp; with_reducible rfl); try simp only [Act.put, sA, sZ, sS])
     apply lext_turn; exact rfl; exact rfl; exact rfl; intro K hK; go_simp; go_at_call 96; refine C.out _ _ ?_; refine hK.out _ _ (Grow.refl w2).dr ?_; clear hK
     try simp only [Act.put, sA, sZ, sS]
     refine lext_nil ?_; simp only [List.drop_succ_cons, List.drop_zero]; go_wp2; exact h.out _ (G2.out.tr (Grow.refl w2).dr)
   ·rw [if_neg hsg] at HR
    have t2 : decide (0 <= m) = false := decide_eq_false hsg
    by_cases hr : 0 < r
    ·rw [if_pos hr] at HR
     by_cases hn : n = 18446744073709551615
     ·have h := Lh fun w' g => HR.out w' 0 0 8 g (by rw [if_pos hn])
      clear HR; subst hn; go_enter Tryz.func100, Tryz.ntmps100
      go_wp2_with fail
      go_at_call 146; refine T.out _ _ ?_; intro w1 hg1; have G1 := Lh hg1; clear hg1; go_wp2_with fail
      go_at_call 147; refine A.out _ _ ?_; go_wp2_with fail
      go_at_call 148; refine D.out _ _ ?_; intro w2 hg2; have G2 := Lh ((G1.out.al (.cells #[.int .i64 s, .int .u64 (hi : Nat), .int .u64 (lo : Nat)] 257)).tr hg2); have K2 := Lh (blk_al _ _ _ hg2); clear hg2; go_wp2_with fail
      refine wp_region_lexT (Grow w2) ((Grow.refl w2).dr) 4 [0, 1, 2, 3] (by kernel_rfl) (by kernel_rfl) (by intro c a d v w h; cases d <;> exact h) ?_
      iterate 3 (apply lext_take; exact rfl; exact rfl; (intro W hW; have z0 := cell_of_row _ w1.heap.size 0 _ _ (0, 0) (grow_blk hW K2.out); (try clear hW); go_simp; with_reducible rfl); try simp only [Act.put, sA, sZ, sS])
      apply lext_turn; exact rfl; exact rfl; exact rfl; intro K hK; go_simp; go_at_call 96; refine C.out _ _ ?_; refine hK.out _ _ (Grow.refl w2).dr ?_; clear hK
      try simp only [Act.put, sA, sZ, sS]
      refine lext_nil ?_; simp only [List.drop_succ_cons, List.drop_zero]; go_wp2; exact h.out _ (G2.out.tr (Grow.refl w2).dr)
     ·rw [if_neg hn] at HR
      have t3 : ((n : Int) == 18446744073709551615) = false := by rw [beq_eq_false_iff_ne]; omega
      obtain ⟨e, he⟩ : ∃ e, d - r = e := ⟨_, rfl⟩
      have t4 : ((d : Int) - r) = (e : Int) := by omega
      obtain ⟨n1, hn1⟩ : ∃ n1, n + 1 = n1 := ⟨_, rfl⟩
      have t6 : ((n : Int) + 1) = (n1 : Int) := by omega
      have hn1b : n1 < 18446744073709551616 := by omega
      have heb : e < 18446744073709551616 := by omega
      rw [he, hn1, show (-(n : Int) - 1) = -(n1 : Int) by omega] at HR; clear he hn1
      by_cases hn2 : 9223372036854775808 < n1
      ·have h := Lh fun w' g => HR.out w' 0 0 8 g (by rw [if_pos hn2])
       clear HR; go_enter Tryz.func100, Tryz.ntmps100
       go_wp2_with fail
       go_at_call 146; refine T.out _ _ ?_; intro w1 hg1; have G1 := Lh hg1; clear hg1; go_wp2_with fail
       go_at_call 147; refine A.out _ _ ?_; go_wp2_with fail
       go_at_call 148; refine D.out _ _ ?_; intro w2 hg2; have G2 := Lh ((G1.out.al (.cells #[.int .i64 s, .int .u64 (hi : Nat), .int .u64 (lo : Nat)] 257)).tr hg2); have K2 := Lh (blk_al _ _ _ hg2); clear hg2; go_wp2_with fail
       refine wp_region_lexT (Grow w2) ((Grow.refl w2).dr) 4 [0, 1, 2, 3] (by kernel_rfl) (by kernel_rfl) (by intro c a d v w h; cases d <;> exact h) ?_
       iterate 3 (apply lext_take; exact rfl; exact rfl; (intro W hW; have z0 := cell_of_row _ w1.heap.size 0 _ _ (0, 0) (grow_blk hW K2.out); (try clear hW); go_simp; with_reducible rfl); try simp only [Act.put, sA, sZ, sS])
       apply lext_turn; exact rfl; exact rfl; exact rfl; intro K hK; go_simp; go_at_call 96; refine C.out _ _ ?_; refine hK.out _ _ (Grow.refl w2).dr ?_; clear hK
       try simp only [Act.put, sA, sZ, sS]
       refine lext_nil ?_; simp only [List.drop_succ_cons, List.drop_zero]; go_wp2; exact h.out _ (G2.out.tr (Grow.refl w2).dr)
      ·have t5 : wrap64 (-wrap64 (n1 : Int)) = -(n1 : Int) := by unfold wrap64; omega
       have h := Lh fun w' g => HR.out w' (wrap64 (-wrap64 (n1 : Int))) e 0 g (by rw [if_neg hn2, t5])
       clear HR t5; go_enter Tryz.func100, Tryz.ntmps100
       go_wp2_with fail
       go_at_call 146; refine T.out _ _ ?_; intro w1 hg1; have G1 := Lh hg1; clear hg1; go_wp2_with fail
       go_at_call 147; refine A.out _ _ ?_; go_wp2_with fail
       go_at_call 148; refine D.out _ _ ?_; intro w2 hg2; have G2 := Lh ((G1.out.al (.cells #[.int .i64 s, .int .u64 (hi : Nat), .int .u64 (lo : Nat)] 257)).tr hg2); have K2 := Lh (blk_al _ _ _ hg2); clear hg2; go_wp2_with fail
       refine wp_region_lexT (Grow w2) ((Grow.refl w2).dr) 4 [0, 1, 2, 3] (by kernel_rfl) (by kernel_rfl) (by intro c a d v w h; cases d <;> exact h) ?_
       iterate 3 (apply lext_take; exact rfl; exact rfl; (intro W hW; have z0 := cell_of_row _ w1.heap.size 0 _ _ (0, 0) (grow_blk hW K2.out); (try clear hW); go_simp; with_reducible rfl); try simp only [Act.put, sA, sZ, sS])
       apply lext_turn; exact rfl; exact rfl; exact rfl; intro K hK; go_simp; go_at_call 96; refine C.out _ _ ?_; refine hK.out _ _ (Grow.refl w2).dr ?_; clear hK
       try simp only [Act.put, sA, sZ, sS]
       refine lext_nil ?_; simp only [List.drop_succ_cons, List.drop_zero]; go_wp2; exact h.out _ (G2.out.tr (Grow.refl w2).dr)
    ·rw [if_neg hr] at HR
     obtain rfl : r = 0 := by omega
     by_cases hn : 9223372036854775808 < n
     ·have h := Lh fun w' g => HR.out w' 0 0 8 g (by rw [if_pos hn])
      clear HR; go_enter Tryz.func100, Tryz.ntmps100
      go_wp2_with fail
      go_at_call 146; refine T.out _ _ ?_; intro w1 hg1; have G1 := Lh hg1; clear hg1; go_wp2_with fail
      go_at_call 147; refine A.out _ _ ?_; go_wp2_with fail
      go_at_call 148; refine D.out _ _ ?_; intro w2 hg2; have G2 := Lh ((G1.out.al (.cells #[.int .i64 s, .int .u64 (hi : Nat), .int .u64 (lo : Nat)] 257)).tr hg2); have K2 := Lh (blk_al _ _ _ hg2); clear hg2; go_wp2_with fail
      refine wp_region_lexT (Grow w2) ((Grow.refl w2).dr) 4 [0, 1, 2, 3] (by kernel_rfl) (by kernel_rfl) (by intro c a d v w h; cases d <;> exact h) ?_
      iterate 3 (apply lext_take; exact rfl; exact rfl; (intro W hW; have z0 := cell_of_row _ w1.heap.size 0 _ _ (0, 0) (grow_blk hW K2.out); (try clear hW); go_simp; with_reducible rfl); try simp only [Act.put, sA, sZ, sS])
      apply lext_turn; exact rfl; exact rfl; exact rfl; intro K hK; go_simp; go_at_call 96; refine C.out _ _ ?_; refine hK.out _ _ (Grow.refl w2).dr ?_; clear hK
      try simp only [Act.put, sA, sZ, sS]
      refine lext_nil ?_; simp only [List.drop_succ_cons, List.drop_zero]; go_wp2; exact h.out _ (G2.out.tr (Grow.refl w2).dr)
     ·have t5 : wrap64 (-wrap64 (n : Int)) = -(n : Int) := by unfold wrap64; omega
      have h := Lh fun w' g => HR.out w' (wrap64 (-wrap64 (n : Int))) 0 0 g (by rw [if_neg hn, t5])
      clear HR t5; go_enter Tryz.func100, Tryz.ntmps100
      go_wp2_with fail
      go_at_call 146; refine T.out _ _ ?_; intro w1 hg1; have G1 := Lh hg1; clear hg1; go_wp2_with fail
      go_at_call 147; refine A.out _ _ ?_; go_wp2_with fail
      go_at_call 148; refine D.out _ _ ?_; intro w2 hg2; have G2 := Lh ((G1.out.al (.cells #[.int .i64 s, .int .u64 (hi : Nat), .int .u64 (lo : Nat)] 257)).tr hg2); have K2 := Lh (blk_al _ _ _ hg2); clear hg2; go_wp2_with fail
      refine wp_region_lexT (Grow w2) ((Grow.refl w2).dr) 4 [0, 1, 2, 3] (by kernel_rfl) (by kernel_rfl) (by intro c a d v w h; cases d <;> exact h) ?_
      iterate 3 (apply lext_take; exact rfl; exact rfl; (intro W hW; have z0 := cell_of_row _ w1.heap.size 0 _ _ (0, 0) (grow_blk hW K2.out); (try clear hW); go_simp; with_reducible rfl); try simp only [Act.put, sA, sZ, sS])
      apply lext_turn; exact rfl; exact rfl; exact rfl; intro K hK; go_simp; go_at_call 96; refine C.out _ _ ?_; refine hK.out _ _ (Grow.refl w2).dr ?_; clear hK
      try simp only [Act.put, sA, sZ, sS]
      refine lext_nil ?_; simp only [List.drop_succ_cons, List.drop_zero]; go_wp2; exact h.out _ (G2.out.tr (Grow.refl w2).dr)
end Go.Proofs.YteeeeddeacepmaaGreatDoor
