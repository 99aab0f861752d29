import Derived.Test.YtehffeglgdcogaaDoorChecked
import Derived.Test.YtehffeglgdcogaaDoorBase
import Derived.Test.YtehffeglgdcogaaDoorWireP
import Derived.Test.YtehffeglgdcogaaDoorBits
namespace Go.Proofs.YtehffeglgdcogaaDoor
open Go.RowKit
theorem ret3 {a b c a' b' c' : Int} (k1 k2 k3 : IntKind) (h1 : a = a') (h2 : b = b') (h3 : c = c') : Ending.returned (.tuple #[.int k1 a, .int k2 b, .int k3 c]) = Ending.returned (.tuple #[.int k1 a', .int k2 b', .int k3 c']) := by rw [h1, h2, h3]
theorem ret_of {r : Int × Int × Int} {a b c : Int} (h : r = (a, b, c)) : Ending.returned (.tuple #[.int .u64 a, .int .i64 b, .int .i64 c]) = Ending.returned (.tuple #[.int .u64 r.1, .int .i64 r.2.1, .int .i64 r.2.2]) := by rw [h]
set_option maxRecDepth 100000 in
set_option maxHeartbeats 1000000 in
theorem varint_any (l : List UInt8) (v : Value) (k : Int) (S : Nat → Prop) (w : World) (hb : Rd w S 1 v l.length (U8 l)) (hl : l.length ≤ 1000000) :
    Calls Tryd.prog 40 #[v, .int .i64 k] w fun e w' => e = .returned (.tuple #[.int .u64 (varint l k).1, .int .i64 (varint l k).2.1, .int .i64 (varint l k).2.2]) ∧ w = w' := by
  obtain ⟨_, A, c, rfl, h1, h2, h3, h4⟩ := hb
  unfold maxLen at h2
  by_cases hr : k < 0 ∨ (l.length : Int) < k
  · have hv : varint l k = (0, 0, 8) := by unfold varint; rw [if_pos hr]
    rw [hv]
    clear hv
    by_cases h0 : k < 0
    · have t1 : decide (k < 0) = true := by simp; omega
      clear hr h3 h4
      go_enter Tryd.func40, Tryd.ntmps40
      go_wp2
      go_ret3
      exact ⟨rfl, rfl⟩
    · have t1 : decide (k < 0) = false := by simp; omega
      have t2 : decide ((l.length : Int) < k) = true := by simp; omega
      clear hr h3 h4 h0
      go_enter Tryd.func40, Tryd.ntmps40
      go_wp2
      go_ret3
      exact ⟨rfl, rfl⟩
  · obtain ⟨k, rfl⟩ := Int.eq_ofNat_of_zero_le (show 0 ≤ k by omega)
    have hkl : k ≤ l.length := by omega
    have t1 : decide ((k : Int) < 0) = false := by simp
    have t2 : decide (l.length < k) = false := by simp; omega
    have hv : varint l k = vgo l k 10 0 0 := by unfold varint; rw [if_neg hr]; rfl
    rw [hv]
    clear hv hr
    go_enter Tryd.func40, Tryd.ntmps40
    go_wp2
    go_loop [17, 4] (fun i a => ∃ (i' a' : Nat), i' ≤ 10 ∧ i = .int .i64 i' ∧ a = .int .u64 a' ∧ Hid (a' < 128 ^ i') ∧ Hid (vgo l k 10 0 0 = vgo l k (10 - i') i' a')) (fun i _ => 10 - (intOf i).toNat)
    case atStart => exact ⟨0, 0, by omega, rfl, rfl, by show 0 < 128 ^ 0; decide, rfl⟩
    case round =>
      obtain ⟨i, a, hi, rfl, rfl, ha, hv⟩ := hrel
      by_cases hi10 : i < 10
      · have e10 : 10 - i = (10 - (i + 1)) + 1 := by omega
        have E10 := Lib.hid e10
        clear e10
        by_cases hs : k + i < l.length
        · obtain ⟨b, o, rfl, _, hc⟩ := h4 (by omega)
          have c1 := hc (k + i) _ (U8_at l (k + i) hs)
          have hx : l[k + i].toNat < 256 := l[k + i].toNat_lt
          generalize hX : l[k + i].toNat = x at *
          have HX := Lib.hid hX
          clear hX hc h4 h3
          by_cases h9 : i = 9 ∧ 1 < x
          · have H9 := Lib.hid h9
            obtain ⟨h9a, h9b⟩ := h9
            have t3 : ((i : Int) == 9) = true := by simp; omega
            clear h9a
            go_wp2
            go_ret3
            exact ⟨ret_of (by rw [hv.out, E10.out, vgo_form hs HX.out H9.out]), rfl⟩
          · have vv := fun m hm => vor a x i m hm ha.out hi10 hx h9
            have H9 := Lib.hid h9
            have VV := Lib.hid vv
            clear vv
            by_cases hlt : x < 128
            · go_wp2
              all_goals go_ret3
              all_goals refine ⟨ret_of ?_, rfl⟩
              all_goals rw [hv.out, E10.out, vgo_done hs HX.out H9.out hlt]
              all_goals refine Prod.ext ?_ (Prod.ext ?_ rfl)
              · exact ((VV.out _ (by have : i = 9 := by omega
                                     subst this; decide)).1).symm
              · show ((k + i + 1 : Nat) : Int) = (k : Int) + 9 + 1; omega
              · exact ((VV.out _ rfl).1).symm
              · show ((k + i + 1 : Nat) : Int) = (k : Int) + i + 1; omega
            · go_wp2
              go_round
              case rel => exact ⟨i + 1, a + x % 128 * 128 ^ i, by omega, by go_num, by rw [(VV.out _ rfl).1], (VV.out _ rfl).2.1, by show _ = _; rw [hv.out, E10.out, vgo_more hs HX.out H9.out hlt]⟩
              case measure => simp [intOf]; omega
        · go_wp2
          go_ret3
          exact ⟨ret_of (by rw [hv.out, E10.out, vgo_short (by omega)]), rfl⟩
      · have hie : i = 10 := by omega
        have hv0 : vgo l k 10 0 0 = (0, 0, 3) := by rw [hv.out, hie]; rfl
        have hv := Lib.hid hv0
        clear hie hv0
        go_wp2
        go_ret3
        exact ⟨ret_of hv.out, rfl⟩

set_option maxRecDepth 100000 in
set_option maxHeartbeats 1000000 in
theorem rvarint_any (l : List UInt8) (v : Value) (k : Int) (S : Nat → Prop) (w : World) (hb : Rd w S 1 v l.length (U8 l)) (hl : l.length ≤ 1000000) :
    Calls Tryd.prog 43 #[v, .int .i64 k] w fun e w' => e = .returned (.tuple #[.int .u64 (varint l k).1, .int .i64 (varint l k).2.1, .int .i64 (varint l k).2.2]) ∧ w = w' := by
  obtain ⟨_, A, c, rfl, h1, h2, h3, h4⟩ := hb
  unfold maxLen at h2
  by_cases hr : k < 0 ∨ (l.length : Int) < k
  · have hv : varint l k = (0, 0, 8) := by unfold varint; rw [if_pos hr]
    rw [hv]
    clear hv
    by_cases h0 : k < 0
    · have t1 : decide (k < 0) = true := by simp; omega
      clear hr h3 h4
      go_enter Tryd.func43, Tryd.ntmps43
      go_wp2
      go_ret3
      exact ⟨rfl, rfl⟩
    · have t1 : decide (k < 0) = false := by simp; omega
      have t2 : decide ((l.length : Int) < k) = true := by simp; omega
      clear hr h3 h4 h0
      go_enter Tryd.func43, Tryd.ntmps43
      go_wp2
      go_ret3
      exact ⟨rfl, rfl⟩
  · obtain ⟨k, rfl⟩ := Int.eq_ofNat_of_zero_le (show 0 ≤ k by omega)
    have hkl : k ≤ l.length := by omega
    have t1 : decide ((k : Int) < 0) = false := by simp
    have t2 : decide (l.length < k) = false := by simp; omega
    have hv : varint l k = vgo l k 10 0 0 := by unfold varint; rw [if_neg hr]; rfl
    rw [hv]
    clear hv hr
    go_enter Tryd.func43, Tryd.ntmps43
    go_wp2
    go_loop [9, 7, 8] (fun i a u => ∃ (i' a' : Nat), i' ≤ 10 ∧ i = .int .i64 i' ∧ a = .int .u64 a' ∧ u = .int .u64 ((128 ^ i' % 18446744073709551616 : Nat) : Int) ∧ Hid (a' < 128 ^ i' ∧ a' < 18446744073709551616) ∧ Hid (vgo l k 10 0 0 = vgo l k (10 - i') i' a')) (fun i _ _ => 10 - (intOf i).toNat)
    case atStart => exact ⟨0, 0, by omega, rfl, rfl, rfl, by show 0 < 128 ^ 0 ∧ _; decide, rfl⟩
    case round =>
      obtain ⟨i, a, hi, rfl, rfl, rfl, ha, hv⟩ := hrel
      by_cases hi10 : i < 10
      · have e10 : 10 - i = (10 - (i + 1)) + 1 := by omega
        have E10 := Lib.hid e10
        clear e10
        by_cases hs : k + i < l.length
        · obtain ⟨b, o, rfl, _, hc⟩ := h4 (by omega)
          have c1 := hc (k + i) _ (U8_at l (k + i) hs)
          have hx : l[k + i].toNat < 256 := l[k + i].toNat_lt
          generalize hX : l[k + i].toNat = x at *
          have HX := Lib.hid hX
          clear hX hc h4 h3
          have hu0 : 128 ^ i % 18446744073709551616 = 128 ^ i := Nat.mod_eq_of_lt (by
            have h1 : 128 ^ i ≤ 128 ^ 9 := Nat.pow_le_pow_right (by decide) (by omega)
            have e : 128 ^ 9 = 9223372036854775808 := by decide
            omega)
          have hu9 : 128 ^ i ≤ 9223372036854775807 + 1 := by
            have h1 : 128 ^ i ≤ 128 ^ 9 := Nat.pow_le_pow_right (by decide) (by omega)
            have e : 128 ^ 9 = 9223372036854775808 := by decide
            omega
          rw [hu0]
          generalize hU : 128 ^ i = u at *
          have HU := Lib.hid hU
          clear hU hu0
          by_cases h9 : i = 9 ∧ 1 < x
          · have H9 := Lib.hid h9
            obtain ⟨h9a, h9b⟩ := h9
            have t3 : ((i : Int) == 9) = true := by simp; omega
            clear h9a hu9
            go_wp2
            go_ret3
            exact ⟨ret_of (by rw [hv.out, E10.out, vgo_form hs HX.out H9.out]), rfl⟩
          · have H9 := Lib.hid h9
            have vv := vadd a x i u HU.out (ha.out.1) hi10 hx h9
            have VV := Lib.hid vv
            clear hu9 vv
            by_cases hlt : x < 128
            · go_wp2
              all_goals go_ret3
              all_goals refine ⟨ret_of ?_, rfl⟩
              all_goals rw [hv.out, E10.out, vgo_done hs HX.out H9.out hlt]
              all_goals refine Prod.ext ?_ (Prod.ext ?_ rfl)
              · exact VV.out.1.symm
              · show ((k + i + 1 : Nat) : Int) = (k : Int) + 9 + 1; omega
              · exact VV.out.1.symm
              · show ((k + i + 1 : Nat) : Int) = (k : Int) + i + 1; omega
            · go_wp2
              go_round
              case rel => exact ⟨i + 1, a + x % 128 * 128 ^ i, by omega, by go_num, by rw [VV.out.1], by rw [unit_next i u HU.out], VV.out.2, by show _ = _; rw [hv.out, E10.out, vgo_more hs HX.out H9.out hlt]⟩
              case measure => simp [intOf]; omega
        · go_wp2
          go_ret3
          exact ⟨ret_of (by rw [hv.out, E10.out, vgo_short (by omega)]), rfl⟩
      · have hie : i = 10 := by omega
        have hv0 : vgo l k 10 0 0 = (0, 0, 3) := by rw [hv.out, hie]; rfl
        have hv := Lib.hid hv0
        clear hie hv0
        go_wp2
        go_ret3
        exact ⟨ret_of hv.out, rfl⟩
end Go.Proofs.YtehffeglgdcogaaDoor
