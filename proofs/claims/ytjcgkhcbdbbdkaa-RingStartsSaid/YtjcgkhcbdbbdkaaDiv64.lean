/-
  bits.Div64.
-/
import Derived.Test.YtjcgkhcbdbbdkaaChecked
import Derived.Test.YtjcgkhcbdbbdkaaLen64
import Derived.Test.YtjcgkhcbdbbdkaaDivP
import Derived.Test.YtjcgkhcbdbbdkaaMul64
namespace Go.Proofs.Ytjcgkhcbdbbdkaa
open Go.RowKit Go.Lib

theorem or_up (a b s : Nat) (hb : b < 2 ^ s) (ha : a * 2 ^ s < 18446744073709551616) (hb2 : b < 18446744073709551616) : bits .or .u64 ((a * 2 ^ s : Nat) : Int) (b : Int) = ((a * 2 ^ s + b : Nat) : Int) := by
  rw [bits_or_u64_nat _ _ ha hb2]
  have h := Nat.two_pow_add_eq_or_of_lt hb a
  rw [Nat.mul_comm] at h
  rw [← h]
/-- what is left of a digit, word arithmetic -/
theorem rest_wrap {un u1 P x : Nat} (h : un * 4294967296 + u1 = P + x) (hx : x < 18446744073709551616) :
    IntKind.u64.wrap (IntKind.u64.wrap (IntKind.u64.wrap ((un : Int) * 4294967296) + u1) - IntKind.u64.wrap (P : Int)) = (x : Int) := by
  simp only [IntKind.wrap_u64]
  omega
theorem start_wrap {un q y1 r : Nat} (h : q * y1 + r = un) (hu : un < 18446744073709551616) : IntKind.u64.wrap ((un : Int) - IntKind.u64.wrap ((q * y1 : Nat) : Int)) = (r : Int) := by
  simp only [IntKind.wrap_u64]
  omega

set_option maxRecDepth 100000 in
set_option maxHeartbeats 4000000 in
theorem div64_any (hi lo y : Nat) (w : World) (h0 : hi < y) (h1 : y < 18446744073709551616) (h2 : lo < 18446744073709551616) {R : Ending → World → Prop}
    (hR : ∀ w', Grow w w' → R (.returned (.tuple #[.int .u64 ((hi * 18446744073709551616 + lo) / y : Nat), .int .u64 ((hi * 18446744073709551616 + lo) % y : Nat)])) w') :
    Calls Try.prog 105 #[.int .u64 hi, .int .u64 lo, .int .u64 y] w R := by
  have HR := Lib.hid hR
  clear hR
  have t0 : ((y : Int) == 0) = false := by rw [beq_eq_false_iff_ne]; omega
  have t1 : decide (y ≤ hi) = false := decide_eq_false (by omega)
  by_cases hz : hi = 0
  · subst hz
    rw [Nat.zero_mul, Nat.zero_add] at HR
    have hy0 : ¬ y = 0 := by omega
    go_enter Try.func105, Try.ntmps105
    have hq : IntKind.u64.wrap ((lo : Int) / y) = ((lo / y : Nat) : Int) := by
      have : lo / y ≤ lo := Nat.div_le_self _ _
      rw [← Int.natCast_ediv]
      generalize lo / y = a at *
      exact IntWalk.u64_in _ (by omega)
    have hr : ((lo : Int) % y) = ((lo % y : Nat) : Int) := rfl
    go_wp2
    go_quiet (fail)
    go_wp2
    exact HR.out _ ((Grow.refl w).dn _)
  · have t2 : ((hi : Int) == 0) = false := by rw [beq_eq_false_iff_ne]; omega
    have LZ := Lib.hid fun W (R : Ending → World → Prop) hR => lz64_any y W (by omega) h1 (R := R) hR
    go_enter Try.func105, Try.ntmps105
    go_wp2_with fail
    go_at_call 107
    refine LZ.out _ _ ?_
    intro s hs1 hs2 hs3
    clear LZ
    obtain ⟨Y, hY⟩ : ∃ Y, y * 2 ^ s = Y := ⟨_, rfl⟩
    obtain ⟨un, hun⟩ : ∃ un, hi * 2 ^ s + lo / 2 ^ (64 - s) = un := ⟨_, rfl⟩
    obtain ⟨L, hL⟩ : ∃ L, lo * 2 ^ s % 18446744073709551616 = L := ⟨_, rfl⟩
    obtain ⟨y1, hy1⟩ : ∃ y1, Y / 4294967296 = y1 := ⟨_, rfl⟩
    obtain ⟨y0, hy0⟩ : ∃ y0, Y % 4294967296 = y0 := ⟨_, rfl⟩
    obtain ⟨u1, hu1⟩ : ∃ u1, L / 4294967296 = u1 := ⟨_, rfl⟩
    obtain ⟨u0, hu0⟩ : ∃ u0, L % 4294967296 = u0 := ⟨_, rfl⟩
    obtain ⟨x, hx⟩ : ∃ x, (un * 4294967296 + u1) % Y = x := ⟨_, rfl⟩
    obtain ⟨z, hz⟩ : ∃ z, (x * 4294967296 + u0) % Y = z := ⟨_, rfl⟩
    have hlt := up_lt h0 h2 hs1
    have hll := low_lt h2 hs1
    have hup : hi * 2 ^ s < 18446744073709551616 := Nat.lt_of_le_of_lt (Nat.le_add_right _ _) (Nat.lt_trans hlt hs2)
    have hl64 : lo / 2 ^ (64 - s) < 18446744073709551616 := Nat.lt_of_le_of_lt (Nat.div_le_self _ _) h2
    rw [hY] at hs2 hs3 hlt
    rw [hun] at hlt
    have hL64 : L < 18446744073709551616 := by rw [← hL]; exact Nat.mod_lt _ (by decide)
    have e1 : IntKind.u64.wrap ((y : Int) * 2 ^ s) = (Y : Int) := by
      rw [show ((y : Int) * 2 ^ s) = ((y * 2 ^ s : Nat) : Int) by simp, hY]
      exact IntWalk.u64_in _ (by omega)
    have e2 : (Y : Int) / 4294967296 = (y1 : Int) := by omega
    have e3 : bits .and .u64 (Y : Int) 4294967295 = (y0 : Int) := by rw [mask32 _ hs2, hy0]
    have e4 : bits .or .u64 (IntKind.u64.wrap ((hi : Int) * 2 ^ s)) ((lo : Int) / 2 ^ (64 - s)) = (un : Int) := by
      have a1 : IntKind.u64.wrap ((hi : Int) * 2 ^ s) = ((hi * 2 ^ s : Nat) : Int) := by
        have : ((hi * 2 ^ s : Nat) : Int) = (hi : Int) * 2 ^ s := by simp
        rw [← this]; exact IntWalk.u64_in _ (by omega)
      have a2 : ((lo : Int) / 2 ^ (64 - s)) = ((lo / 2 ^ (64 - s) : Nat) : Int) := by simp
      rw [a1, a2, or_up _ _ _ hll hup hl64, hun]
    have e5 : IntKind.u64.wrap ((lo : Int) * 2 ^ s) = (L : Int) := by
      have : ((lo * 2 ^ s : Nat) : Int) = (lo : Int) * 2 ^ s := by simp
      rw [← this, IntKind.wrap_u64, ← hL]; simp
    have e6 : (L : Int) / 4294967296 = (u1 : Int) := by omega
    have e7 : bits .and .u64 (L : Int) 4294967295 = (u0 : Int) := by rw [mask32 _ hL64, hu0]
    have hu1b : u1 < 4294967296 := by omega
    have hu0b : u0 < 4294967296 := by omega
    have hy1p : 2147483648 ≤ y1 := by omega
    have hy1b : y1 < 4294967296 := by omega
    have hy0b : y0 < 4294967296 := by omega
    have hYe : Y = y1 * 4294967296 + y0 := by omega
    have hxb : x < Y := by rw [← hx]; exact Nat.mod_lt _ (by omega)
    have hzb : z < Y := by rw [← hz]; exact Nat.mod_lt _ (by omega)
    obtain ⟨QQ, hQQ⟩ : ∃ QQ, (hi * 18446744073709551616 + lo) / y = QQ := ⟨_, rfl⟩
    obtain ⟨RR, hRR⟩ : ∃ RR, (hi * 18446744073709551616 + lo) % y = RR := ⟨_, rfl⟩
    have hQQb : QQ < 18446744073709551616 := by
      rw [← hQQ, Nat.div_lt_iff_lt_mul (by omega)]
      omega
    have DW : Hid (∀ Q1 Q0, Q1 = (un * 4294967296 + u1) / Y → Q0 = (x * 4294967296 + u0) / Y → QQ = Q1 * 4294967296 + Q0 ∧ z / 2 ^ s = RR) := by
      intro Q1 Q0 h h'
      have d := div_whole hs1 (by omega) hun hL hY hu1 hu0 h hx h' hz
      rw [hQQ, hRR] at d
      exact d
    rw [hQQ, hRR] at HR
    clear hQQ hRR
    have ES := Lib.hid (est_start (y0 := y0) (un := un) (by omega : 0 < y1) hu1b)
    have EX := Lib.hid (est_start (y0 := y0) (un := x) (by omega : 0 < y1) hu0b)
    obtain ⟨q, hq⟩ : ∃ q, un / y1 = q := ⟨_, rfl⟩
    obtain ⟨r, hr⟩ : ∃ r, un % y1 = r := ⟨_, rfl⟩
    obtain ⟨p, hp⟩ : ∃ p, x / y1 = p := ⟨_, rfl⟩
    obtain ⟨t, ht⟩ : ∃ t, x % y1 = t := ⟨_, rfl⟩
    have hqb : q < 18446744073709551616 := by rw [← hq]; exact Nat.lt_of_le_of_lt (Nat.div_le_self _ _) (by omega)
    have hpb : p < 18446744073709551616 := by rw [← hp]; exact Nat.lt_of_le_of_lt (Nat.div_le_self _ _) (by omega)
    have hrb : r < 4294967296 := by rw [← hr]; exact Nat.lt_trans (Nat.mod_lt _ (by omega)) hy1b
    have htb : t < 4294967296 := by rw [← ht]; exact Nat.lt_trans (Nat.mod_lt _ (by omega)) hy1b
    have e8 : IntKind.u64.wrap ((un : Int) / (y1 : Int)) = (q : Int) := by
      rw [← Int.natCast_ediv, hq]; exact IntWalk.u64_in _ (by omega)
    have e9 : IntKind.u64.wrap ((un : Int) - IntKind.u64.wrap ((q : Int) * (y1 : Int))) = (r : Int) := by
      rw [mulNI]; exact start_wrap (by rw [← hq, ← hr, Nat.mul_comm]; exact Nat.div_add_mod _ _) (by omega)
    have e10 : IntKind.u64.wrap ((x : Int) / (y1 : Int)) = (p : Int) := by
      rw [← Int.natCast_ediv, hp]; exact IntWalk.u64_in _ (by omega)
    have e11 : IntKind.u64.wrap ((x : Int) - IntKind.u64.wrap ((p : Int) * (y1 : Int))) = (t : Int) := by
      rw [mulNI]; exact start_wrap (by rw [← hp, ← ht, Nat.mul_comm]; exact Nat.div_add_mod _ _) (by omega)
    have hyz : ¬ (y1 : Int) = 0 := by omega
    rw [hq, hr] at ES
    rw [hp, ht] at EX
    have RX : Hid (∀ Q1, Q1 = (un * 4294967296 + u1) / Y → IntKind.u64.wrap (IntKind.u64.wrap (IntKind.u64.wrap ((un : Int) * 4294967296) + u1) - IntKind.u64.wrap ((Q1 : Int) * (Y : Int))) = (x : Int)) := by
      intro Q1 h
      rw [mulNI]
      exact rest_wrap (by rw [← hx]; exact est_rest h) (by omega)
    have RZ : Hid (∀ Q0, Q0 = (x * 4294967296 + u0) / Y → IntKind.u64.wrap (IntKind.u64.wrap (IntKind.u64.wrap ((x : Int) * 4294967296) + u0) - IntKind.u64.wrap ((Q0 : Int) * (Y : Int))) = (z : Int)) := by
      intro Q0 h
      rw [mulNI]
      exact rest_wrap (by rw [← hz]; exact est_rest h) (by omega)
    have HYE := Lib.hid hYe
    have HLT := Lib.hid hlt
    clear hY hun hL hy1 hy0 hu1 hu0 hx hz hq hr hp ht hll hup hl64 hYe hlt
    go_wp2_with fail
    clear e1 e2 e3 e4 e5 e6 e7 e8 e9
    go_loopw [15, 16] (fun s15 s16 wr => ∃ q r : Nat, s15 = .int .u64 q ∧ s16 = .int .u64 r ∧ Hid (Est y1 y0 un u1 q r) ∧ q < 18446744073709551616 ∧ r < 4294967296 ∧ wr = w) (fun s15 _ _ => (RowKit.intOf s15).toNat)
    case atStart => exact ⟨q, r, rfl, rfl, ES.out, hqb, hrb, rfl⟩
    case round =>
      clear ES
      obtain ⟨q, r, rfl, rfl, hE, hqb2, hrb2, rfl⟩ := hrel
      have S := Lib.hid (est_step (by omega : 0 < y1) hu1b (by rw [← HYE.out]; exact HLT.out) hE.out)
      have LE := Lib.hid (est_le (by omega : 0 < y1) hE.out)
      have hE2 := hE.out.1
      by_cases hbig : 4294967296 ≤ q
      · have t3 : decide (4294967296 ≤ (q : Int)) = true := by simp; omega
        obtain ⟨s1, s2⟩ := S.out (Or.inl hbig)
        obtain ⟨q', hq'⟩ : ∃ q', q - 1 = q' := ⟨_, rfl⟩
        rw [hq'] at s2
        have s2 := Lib.hid s2
        have hsub : ((q : Int) - 1) = (q' : Int) := by omega
        have hq2 : q' < 18446744073709551616 := by omega
        have hqm := Lib.hid (show q' < q by omega)
        have BR := Lib.hid (est_break (by omega : 0 < y1) hy0b (by rw [← HYE.out]; exact HLT.out) s2.out)
        clear S LE hE2 hE
        by_cases hbr : 4294967296 ≤ r + y1
        · have t5 : decide (4294967296 ≤ ((r : Int) + y1)) = true := by simp; omega
          have hQ := BR.out hbr
          rw [← HYE.out] at hQ
          clear BR s1 s2 hbr hq' hqm
          obtain ⟨Q1, hq1⟩ : ∃ Q1, Q1 = q' := ⟨_, rfl⟩
          subst hq1
          have f1 := RX.out Q1 hQ
          have hQ1 := Lib.hid hQ
          clear hQ RX
          go_wp2_with fail
          clear f1 e10 e11
          go_loopw [18, 16] (fun s18 s16 wv => ∃ q r : Nat, s18 = .int .u64 q ∧ s16 = .int .u64 r ∧ Hid (Est y1 y0 x u0 q r) ∧ q < 18446744073709551616 ∧ r < 4294967296 ∧ wv = wr) (fun s18 _ _ => (RowKit.intOf s18).toNat)
          case atStart => exact ⟨p, t, rfl, rfl, EX.out, hpb, htb, rfl⟩
          case round =>
            clear EX
            obtain ⟨q, r, rfl, rfl, hE, hqb2, hrb2, rfl⟩ := hrel
            have S := Lib.hid (est_step (by omega : 0 < y1) hu0b (by rw [← HYE.out]; exact hxb) hE.out)
            have LE := Lib.hid (est_le (by omega : 0 < y1) hE.out)
            have hE2 := hE.out.1
            by_cases hbig : 4294967296 ≤ q
            · have t3 : decide (4294967296 ≤ (q : Int)) = true := by simp; omega
              obtain ⟨s1, s2⟩ := S.out (Or.inl hbig)
              obtain ⟨q', hq'⟩ : ∃ q', q - 1 = q' := ⟨_, rfl⟩
              rw [hq'] at s2
              have s2 := Lib.hid s2
              have hsub : ((q : Int) - 1) = (q' : Int) := by omega
              have hq2 : q' < 18446744073709551616 := by omega
              have hqm := Lib.hid (show q' < q by omega)
              have BR := Lib.hid (est_break (by omega : 0 < y1) hy0b (by rw [← HYE.out]; exact hxb) s2.out)
              clear S LE hE2 hE
              by_cases hbr : 4294967296 ≤ r + y1
              · have t5 : decide (4294967296 ≤ ((r : Int) + y1)) = true := by simp; omega
                have hQ := BR.out hbr
                rw [← HYE.out] at hQ
                clear BR s1 s2 hbr hq' hqm
                obtain ⟨d1, d2⟩ := DW.out _ _ hQ1.out hQ
                have f2 := RZ.out _ hQ
                have g3 : (z : Int) / 2 ^ s = (RR : Int) := by rw [← d2]; simp
                have g1 : IntKind.u64.wrap (IntKind.u64.wrap ((Q1 : Int) * 4294967296) + q') = (QQ : Int) := by
                  simp only [IntKind.wrap_u64]
                  omega
                have g1a : IntKind.u64.wrap ((Q1 : Int) * 4294967296 + q') = (QQ : Int) := by
                  simp only [IntKind.wrap_u64]
                  omega
                have g1b : ((Q1 : Int) * 4294967296 + q') = (QQ : Int) := by omega
                clear d1 d2 hQ RZ DW
                go_wp2
                exact HR.out _ (Grow.refl _)
              · have t5 : decide (4294967296 ≤ ((r : Int) + y1)) = false := by simp; omega
                clear BR s1 hq'
                go_wp2_with fail
                go_roundw
                case rel => exact ⟨q', r + y1, by go_num, by go_num, s2.out, by omega, by omega, by first | rfl | trivial⟩
                case measure => have := hqm.out; simp [RowKit.intOf]; omega
            · have t3 : decide (4294967296 ≤ (q : Int)) = false := by simp; omega
              obtain ⟨m, hm⟩ : ∃ m, q * y0 = m := ⟨_, rfl⟩
              have hmb : m < 18446744073709551616 := by
                rw [← hm]
                exact Nat.lt_of_le_of_lt (Nat.mul_le_mul (show q ≤ 4294967295 by omega) (show y0 ≤ 4294967295 by omega)) (by decide)
              rw [hm] at S LE
              have hmw : IntKind.u64.wrap ((q : Int) * (y0 : Int)) = (m : Int) := by rw [mulNI, hm]; exact IntWalk.u64_in _ (by omega)
              by_cases hcm : 4294967296 * r + u0 < m
              · have t4 : decide (4294967296 * (r : Int) + u0 < m) = true := by simp; omega
                obtain ⟨s1, s2⟩ := S.out (Or.inr hcm)
                clear hm
                have hmw := hmw
                obtain ⟨q', hq'⟩ : ∃ q', q - 1 = q' := ⟨_, rfl⟩
                rw [hq'] at s2
                have s2 := Lib.hid s2
                have hsub : ((q : Int) - 1) = (q' : Int) := by omega
                have hq2 : q' < 18446744073709551616 := by omega
                have hqm := Lib.hid (show q' < q by omega)
                have BR := Lib.hid (est_break (by omega : 0 < y1) hy0b (by rw [← HYE.out]; exact hxb) s2.out)
                clear S LE hE2 hE
                by_cases hbr : 4294967296 ≤ r + y1
                · have t5 : decide (4294967296 ≤ ((r : Int) + y1)) = true := by simp; omega
                  have hQ := BR.out hbr
                  rw [← HYE.out] at hQ
                  clear BR s1 s2 hbr hq' hqm
                  obtain ⟨d1, d2⟩ := DW.out _ _ hQ1.out hQ
                  have f2 := RZ.out _ hQ
                  have g3 : (z : Int) / 2 ^ s = (RR : Int) := by rw [← d2]; simp
                  have g1 : IntKind.u64.wrap (IntKind.u64.wrap ((Q1 : Int) * 4294967296) + q') = (QQ : Int) := by
                    simp only [IntKind.wrap_u64]
                    omega
                  have g1a : IntKind.u64.wrap ((Q1 : Int) * 4294967296 + q') = (QQ : Int) := by
                    simp only [IntKind.wrap_u64]
                    omega
                  have g1b : ((Q1 : Int) * 4294967296 + q') = (QQ : Int) := by omega
                  clear d1 d2 hQ RZ DW
                  go_wp2
                  exact HR.out _ (Grow.refl _)
                · have t5 : decide (4294967296 ≤ ((r : Int) + y1)) = false := by simp; omega
                  clear BR s1 hq'
                  go_wp2_with fail
                  go_roundw
                  case rel => exact ⟨q', r + y1, by go_num, by go_num, s2.out, by omega, by omega, by first | rfl | trivial⟩
                  case measure => have := hqm.out; simp [RowKit.intOf]; omega
              · have t4 : decide (4294967296 * (r : Int) + u0 < m) = false := by simp; omega
                have hQ := LE.out (by omega)
                rw [← HYE.out] at hQ
                clear S LE hE2 hE hm
                obtain ⟨d1, d2⟩ := DW.out _ _ hQ1.out hQ
                have f2 := RZ.out _ hQ
                have g3 : (z : Int) / 2 ^ s = (RR : Int) := by rw [← d2]; simp
                have g1 : IntKind.u64.wrap (IntKind.u64.wrap ((Q1 : Int) * 4294967296) + q) = (QQ : Int) := by
                  simp only [IntKind.wrap_u64]
                  omega
                have g1a : IntKind.u64.wrap ((Q1 : Int) * 4294967296 + q) = (QQ : Int) := by
                  simp only [IntKind.wrap_u64]
                  omega
                have g1b : ((Q1 : Int) * 4294967296 + q) = (QQ : Int) := by omega
                clear d1 d2 hQ RZ DW
                go_wp2
                exact HR.out _ (Grow.refl _)
        · have t5 : decide (4294967296 ≤ ((r : Int) + y1)) = false := by simp; omega
          clear BR s1 hq'
          go_wp2_with fail
          go_roundw
          case rel => exact ⟨q', r + y1, by go_num, by go_num, s2.out, by omega, by omega, by first | rfl | trivial⟩
          case measure => have := hqm.out; simp [RowKit.intOf]; omega
      · have t3 : decide (4294967296 ≤ (q : Int)) = false := by simp; omega
        obtain ⟨m, hm⟩ : ∃ m, q * y0 = m := ⟨_, rfl⟩
        have hmb : m < 18446744073709551616 := by
          rw [← hm]
          exact Nat.lt_of_le_of_lt (Nat.mul_le_mul (show q ≤ 4294967295 by omega) (show y0 ≤ 4294967295 by omega)) (by decide)
        rw [hm] at S LE
        have hmw : IntKind.u64.wrap ((q : Int) * (y0 : Int)) = (m : Int) := by rw [mulNI, hm]; exact IntWalk.u64_in _ (by omega)
        by_cases hcm : 4294967296 * r + u1 < m
        · have t4 : decide (4294967296 * (r : Int) + u1 < m) = true := by simp; omega
          obtain ⟨s1, s2⟩ := S.out (Or.inr hcm)
          clear hm
          have hmw := hmw
          obtain ⟨q', hq'⟩ : ∃ q', q - 1 = q' := ⟨_, rfl⟩
          rw [hq'] at s2
          have s2 := Lib.hid s2
          have hsub : ((q : Int) - 1) = (q' : Int) := by omega
          have hq2 : q' < 18446744073709551616 := by omega
          have hqm := Lib.hid (show q' < q by omega)
          have BR := Lib.hid (est_break (by omega : 0 < y1) hy0b (by rw [← HYE.out]; exact HLT.out) s2.out)
          clear S LE hE2 hE
          by_cases hbr : 4294967296 ≤ r + y1
          · have t5 : decide (4294967296 ≤ ((r : Int) + y1)) = true := by simp; omega
            have hQ := BR.out hbr
            rw [← HYE.out] at hQ
            clear BR s1 s2 hbr hq' hqm
            obtain ⟨Q1, hq1⟩ : ∃ Q1, Q1 = q' := ⟨_, rfl⟩
            subst hq1
            have f1 := RX.out Q1 hQ
            have hQ1 := Lib.hid hQ
            clear hQ RX
            go_wp2_with fail
            clear f1 e10 e11
            go_loopw [18, 16] (fun s18 s16 wv => ∃ q r : Nat, s18 = .int .u64 q ∧ s16 = .int .u64 r ∧ Hid (Est y1 y0 x u0 q r) ∧ q < 18446744073709551616 ∧ r < 4294967296 ∧ wv = wr) (fun s18 _ _ => (RowKit.intOf s18).toNat)
            case atStart => exact ⟨p, t, rfl, rfl, EX.out, hpb, htb, rfl⟩
            case round =>
              clear EX
              obtain ⟨q, r, rfl, rfl, hE, hqb2, hrb2, rfl⟩ := hrel
              have S := Lib.hid (est_step (by omega : 0 < y1) hu0b (by rw [← HYE.out]; exact hxb) hE.out)
              have LE := Lib.hid (est_le (by omega : 0 < y1) hE.out)
              have hE2 := hE.out.1
              by_cases hbig : 4294967296 ≤ q
              · have t3 : decide (4294967296 ≤ (q : Int)) = true := by simp; omega
                obtain ⟨s1, s2⟩ := S.out (Or.inl hbig)
                obtain ⟨q', hq'⟩ : ∃ q', q - 1 = q' := ⟨_, rfl⟩
                rw [hq'] at s2
                have s2 := Lib.hid s2
                have hsub : ((q : Int) - 1) = (q' : Int) := by omega
                have hq2 : q' < 18446744073709551616 := by omega
                have hqm := Lib.hid (show q' < q by omega)
                have BR := Lib.hid (est_break (by omega : 0 < y1) hy0b (by rw [← HYE.out]; exact hxb) s2.out)
                clear S LE hE2 hE
                by_cases hbr : 4294967296 ≤ r + y1
                · have t5 : decide (4294967296 ≤ ((r : Int) + y1)) = true := by simp; omega
                  have hQ := BR.out hbr
                  rw [← HYE.out] at hQ
                  clear BR s1 s2 hbr hq' hqm
                  obtain ⟨d1, d2⟩ := DW.out _ _ hQ1.out hQ
                  have f2 := RZ.out _ hQ
                  have g3 : (z : Int) / 2 ^ s = (RR : Int) := by rw [← d2]; simp
                  have g1 : IntKind.u64.wrap (IntKind.u64.wrap ((Q1 : Int) * 4294967296) + q') = (QQ : Int) := by
                    simp only [IntKind.wrap_u64]
                    omega
                  have g1a : IntKind.u64.wrap ((Q1 : Int) * 4294967296 + q') = (QQ : Int) := by
                    simp only [IntKind.wrap_u64]
                    omega
                  have g1b : ((Q1 : Int) * 4294967296 + q') = (QQ : Int) := by omega
                  clear d1 d2 hQ RZ DW
                  go_wp2
                  exact HR.out _ (Grow.refl _)
                · have t5 : decide (4294967296 ≤ ((r : Int) + y1)) = false := by simp; omega
                  clear BR s1 hq'
                  go_wp2_with fail
                  go_roundw
                  case rel => exact ⟨q', r + y1, by go_num, by go_num, s2.out, by omega, by omega, by first | rfl | trivial⟩
                  case measure => have := hqm.out; simp [RowKit.intOf]; omega
              · have t3 : decide (4294967296 ≤ (q : Int)) = false := by simp; omega
                obtain ⟨m, hm⟩ : ∃ m, q * y0 = m := ⟨_, rfl⟩
                have hmb : m < 18446744073709551616 := by
                  rw [← hm]
                  exact Nat.lt_of_le_of_lt (Nat.mul_le_mul (show q ≤ 4294967295 by omega) (show y0 ≤ 4294967295 by omega)) (by decide)
                rw [hm] at S LE
                have hmw : IntKind.u64.wrap ((q : Int) * (y0 : Int)) = (m : Int) := by rw [mulNI, hm]; exact IntWalk.u64_in _ (by omega)
                by_cases hcm : 4294967296 * r + u0 < m
                · have t4 : decide (4294967296 * (r : Int) + u0 < m) = true := by simp; omega
                  obtain ⟨s1, s2⟩ := S.out (Or.inr hcm)
                  clear hm
                  have hmw := hmw
                  obtain ⟨q', hq'⟩ : ∃ q', q - 1 = q' := ⟨_, rfl⟩
                  rw [hq'] at s2
                  have s2 := Lib.hid s2
                  have hsub : ((q : Int) - 1) = (q' : Int) := by omega
                  have hq2 : q' < 18446744073709551616 := by omega
                  have hqm := Lib.hid (show q' < q by omega)
                  have BR := Lib.hid (est_break (by omega : 0 < y1) hy0b (by rw [← HYE.out]; exact hxb) s2.out)
                  clear S LE hE2 hE
                  by_cases hbr : 4294967296 ≤ r + y1
                  · have t5 : decide (4294967296 ≤ ((r : Int) + y1)) = true := by simp; omega
                    have hQ := BR.out hbr
                    rw [← HYE.out] at hQ
                    clear BR s1 s2 hbr hq' hqm
                    obtain ⟨d1, d2⟩ := DW.out _ _ hQ1.out hQ
                    have f2 := RZ.out _ hQ
                    have g3 : (z : Int) / 2 ^ s = (RR : Int) := by rw [← d2]; simp
                    have g1 : IntKind.u64.wrap (IntKind.u64.wrap ((Q1 : Int) * 4294967296) + q') = (QQ : Int) := by
                      simp only [IntKind.wrap_u64]
                      omega
                    have g1a : IntKind.u64.wrap ((Q1 : Int) * 4294967296 + q') = (QQ : Int) := by
                      simp only [IntKind.wrap_u64]
                      omega
                    have g1b : ((Q1 : Int) * 4294967296 + q') = (QQ : Int) := by omega
                    clear d1 d2 hQ RZ DW
                    go_wp2
                    exact HR.out _ (Grow.refl _)
                  · have t5 : decide (4294967296 ≤ ((r : Int) + y1)) = false := by simp; omega
                    clear BR s1 hq'
                    go_wp2_with fail
                    go_roundw
                    case rel => exact ⟨q', r + y1, by go_num, by go_num, s2.out, by omega, by omega, by first | rfl | trivial⟩
                    case measure => have := hqm.out; simp [RowKit.intOf]; omega
                · have t4 : decide (4294967296 * (r : Int) + u0 < m) = false := by simp; omega
                  have hQ := LE.out (by omega)
                  rw [← HYE.out] at hQ
                  clear S LE hE2 hE hm
                  obtain ⟨d1, d2⟩ := DW.out _ _ hQ1.out hQ
                  have f2 := RZ.out _ hQ
                  have g3 : (z : Int) / 2 ^ s = (RR : Int) := by rw [← d2]; simp
                  have g1 : IntKind.u64.wrap (IntKind.u64.wrap ((Q1 : Int) * 4294967296) + q) = (QQ : Int) := by
                    simp only [IntKind.wrap_u64]
                    omega
                  have g1a : IntKind.u64.wrap ((Q1 : Int) * 4294967296 + q) = (QQ : Int) := by
                    simp only [IntKind.wrap_u64]
                    omega
                  have g1b : ((Q1 : Int) * 4294967296 + q) = (QQ : Int) := by omega
                  clear d1 d2 hQ RZ DW
                  go_wp2
                  exact HR.out _ (Grow.refl _)
          · have t5 : decide (4294967296 ≤ ((r : Int) + y1)) = false := by simp; omega
            clear BR s1 hq'
            go_wp2_with fail
            go_roundw
            case rel => exact ⟨q', r + y1, by go_num, by go_num, s2.out, by omega, by omega, by first | rfl | trivial⟩
            case measure => have := hqm.out; simp [RowKit.intOf]; omega
        · have t4 : decide (4294967296 * (r : Int) + u1 < m) = false := by simp; omega
          have hQ := LE.out (by omega)
          rw [← HYE.out] at hQ
          clear S LE hE2 hE hm
          obtain ⟨Q1, hq1⟩ : ∃ Q1, Q1 = q := ⟨_, rfl⟩
          subst hq1
          have f1 := RX.out Q1 hQ
          have hQ1 := Lib.hid hQ
          clear hQ RX
          go_wp2_with fail
          clear f1 e10 e11
          go_loopw [18, 16] (fun s18 s16 wv => ∃ q r : Nat, s18 = .int .u64 q ∧ s16 = .int .u64 r ∧ Hid (Est y1 y0 x u0 q r) ∧ q < 18446744073709551616 ∧ r < 4294967296 ∧ wv = wr) (fun s18 _ _ => (RowKit.intOf s18).toNat)
          case atStart => exact ⟨p, t, rfl, rfl, EX.out, hpb, htb, rfl⟩
          case round =>
            clear EX
            obtain ⟨q, r, rfl, rfl, hE, hqb2, hrb2, rfl⟩ := hrel
            have S := Lib.hid (est_step (by omega : 0 < y1) hu0b (by rw [← HYE.out]; exact hxb) hE.out)
            have LE := Lib.hid (est_le (by omega : 0 < y1) hE.out)
            have hE2 := hE.out.1
            by_cases hbig : 4294967296 ≤ q
            · have t3 : decide (4294967296 ≤ (q : Int)) = true := by simp; omega
              obtain ⟨s1, s2⟩ := S.out (Or.inl hbig)
              obtain ⟨q', hq'⟩ : ∃ q', q - 1 = q' := ⟨_, rfl⟩
              rw [hq'] at s2
              have s2 := Lib.hid s2
              have hsub : ((q : Int) - 1) = (q' : Int) := by omega
              have hq2 : q' < 18446744073709551616 := by omega
              have hqm := Lib.hid (show q' < q by omega)
              have BR := Lib.hid (est_break (by omega : 0 < y1) hy0b (by rw [← HYE.out]; exact hxb) s2.out)
              clear S LE hE2 hE
              by_cases hbr : 4294967296 ≤ r + y1
              · have t5 : decide (4294967296 ≤ ((r : Int) + y1)) = true := by simp; omega
                have hQ := BR.out hbr
                rw [← HYE.out] at hQ
                clear BR s1 s2 hbr hq' hqm
                obtain ⟨d1, d2⟩ := DW.out _ _ hQ1.out hQ
                have f2 := RZ.out _ hQ
                have g3 : (z : Int) / 2 ^ s = (RR : Int) := by rw [← d2]; simp
                have g1 : IntKind.u64.wrap (IntKind.u64.wrap ((Q1 : Int) * 4294967296) + q') = (QQ : Int) := by
                  simp only [IntKind.wrap_u64]
                  omega
                have g1a : IntKind.u64.wrap ((Q1 : Int) * 4294967296 + q') = (QQ : Int) := by
                  simp only [IntKind.wrap_u64]
                  omega
                have g1b : ((Q1 : Int) * 4294967296 + q') = (QQ : Int) := by omega
                clear d1 d2 hQ RZ DW
                go_wp2
                exact HR.out _ (Grow.refl _)
              · have t5 : decide (4294967296 ≤ ((r : Int) + y1)) = false := by simp; omega
                clear BR s1 hq'
                go_wp2_with fail
                go_roundw
                case rel => exact ⟨q', r + y1, by go_num, by go_num, s2.out, by omega, by omega, by first | rfl | trivial⟩
                case measure => have := hqm.out; simp [RowKit.intOf]; omega
            · have t3 : decide (4294967296 ≤ (q : Int)) = false := by simp; omega
              obtain ⟨m, hm⟩ : ∃ m, q * y0 = m := ⟨_, rfl⟩
              have hmb : m < 18446744073709551616 := by
                rw [← hm]
                exact Nat.lt_of_le_of_lt (Nat.mul_le_mul (show q ≤ 4294967295 by omega) (show y0 ≤ 4294967295 by omega)) (by decide)
              rw [hm] at S LE
              have hmw : IntKind.u64.wrap ((q : Int) * (y0 : Int)) = (m : Int) := by rw [mulNI, hm]; exact IntWalk.u64_in _ (by omega)
              by_cases hcm : 4294967296 * r + u0 < m
              · have t4 : decide (4294967296 * (r : Int) + u0 < m) = true := by simp; omega
                obtain ⟨s1, s2⟩ := S.out (Or.inr hcm)
                clear hm
                have hmw := hmw
                obtain ⟨q', hq'⟩ : ∃ q', q - 1 = q' := ⟨_, rfl⟩
                rw [hq'] at s2
                have s2 := Lib.hid s2
                have hsub : ((q : Int) - 1) = (q' : Int) := by omega
                have hq2 : q' < 18446744073709551616 := by omega
                have hqm := Lib.hid (show q' < q by omega)
                have BR := Lib.hid (est_break (by omega : 0 < y1) hy0b (by rw [← HYE.out]; exact hxb) s2.out)
                clear S LE hE2 hE
                by_cases hbr : 4294967296 ≤ r + y1
                · have t5 : decide (4294967296 ≤ ((r : Int) + y1)) = true := by simp; omega
                  have hQ := BR.out hbr
                  rw [← HYE.out] at hQ
                  clear BR s1 s2 hbr hq' hqm
                  obtain ⟨d1, d2⟩ := DW.out _ _ hQ1.out hQ
                  have f2 := RZ.out _ hQ
                  have g3 : (z : Int) / 2 ^ s = (RR : Int) := by rw [← d2]; simp
                  have g1 : IntKind.u64.wrap (IntKind.u64.wrap ((Q1 : Int) * 4294967296) + q') = (QQ : Int) := by
                    simp only [IntKind.wrap_u64]
                    omega
                  have g1a : IntKind.u64.wrap ((Q1 : Int) * 4294967296 + q') = (QQ : Int) := by
                    simp only [IntKind.wrap_u64]
                    omega
                  have g1b : ((Q1 : Int) * 4294967296 + q') = (QQ : Int) := by omega
                  clear d1 d2 hQ RZ DW
                  go_wp2
                  exact HR.out _ (Grow.refl _)
                · have t5 : decide (4294967296 ≤ ((r : Int) + y1)) = false := by simp; omega
                  clear BR s1 hq'
                  go_wp2_with fail
                  go_roundw
                  case rel => exact ⟨q', r + y1, by go_num, by go_num, s2.out, by omega, by omega, by first | rfl | trivial⟩
                  case measure => have := hqm.out; simp [RowKit.intOf]; omega
              · have t4 : decide (4294967296 * (r : Int) + u0 < m) = false := by simp; omega
                have hQ := LE.out (by omega)
                rw [← HYE.out] at hQ
                clear S LE hE2 hE hm
                obtain ⟨d1, d2⟩ := DW.out _ _ hQ1.out hQ
                have f2 := RZ.out _ hQ
                have g3 : (z : Int) / 2 ^ s = (RR : Int) := by rw [← d2]; simp
                have g1 : IntKind.u64.wrap (IntKind.u64.wrap ((Q1 : Int) * 4294967296) + q) = (QQ : Int) := by
                  simp only [IntKind.wrap_u64]
                  omega
                have g1a : IntKind.u64.wrap ((Q1 : Int) * 4294967296 + q) = (QQ : Int) := by
                  simp only [IntKind.wrap_u64]
                  omega
                have g1b : ((Q1 : Int) * 4294967296 + q) = (QQ : Int) := by omega
                clear d1 d2 hQ RZ DW
                go_wp2
                exact HR.out _ (Grow.refl _)
end Go.Proofs.Ytjcgkhcbdbbdkaa
