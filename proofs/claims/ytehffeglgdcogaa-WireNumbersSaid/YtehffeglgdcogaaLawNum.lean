import Derived.Test.YtehffeglgdcogaaChecked
import Derived.Test.YtehffeglgdcogaaBase
import Derived.Test.YtehffeglgdcogaaWire1
import Derived.Test.YtehffeglgdcogaaWire2
import Derived.Test.YtehffeglgdcogaaZig
import Derived.Test.YtehffeglgdcogaaWireL
import Derived.Test.YtehffeglgdcogaaLex
namespace Go.Proofs.Ytehffeglgdcogaa
open Go.RowKit

theorem code7_any (n : Int) (w : World) {R : Ending → World → Prop} (hR : R (.returned (.int .i64 n)) w) :
    Calls Try.prog 16 #[.int .i64 n] w R := by
  go_enter Try.func16, Try.ntmps16
  go_wp2
  exact hR

theorem zig_u64 (n : Int) (h : I64 n) : U64 (zig n) := by unfold I64 at h; unfold U64 zig; split <;> omega

set_option maxRecDepth 100000 in
set_option maxHeartbeats 2000000 in
theorem wireNumbers_walk (v : Nat) (n at_ : Int) (l : List UInt8) (b : Value) (S : Nat → Prop) (w : World) (hb : Rd w S 1 b l.length (U8 l)) (hv : v < 18446744073709551616) (hn : I64 n)
    {R : Ending → World → Prop} (hR : ∀ w', Grow w w' → R (.returned (.bool true)) w') :
    Calls Try.prog 3 #[.int .u64 v, .int .i64 n, b, .int .i64 at_] w R := by
  have HR := Lib.hid hR
  clear hR
  have HB := Lib.hid hb
  obtain ⟨_, A, c, rfl, h1, h2, _, _⟩ := hb
  by_cases hl : l.length ≤ 500
  · have hvv := varint_vput l [] v hv
    rw [List.append_nil] at hvv
    obtain ⟨h9a, h9b⟩ := vput_len 9 v
    have H1 := Lib.hid fun W S h => varint_any l (.slice A l.length c) at_ S W h (by omega)
    have H2 := Lib.hid fun W S h => rvarint_any l (.slice A l.length c) at_ S W h (by omega)
    have H3 := fun r W S h => varint_any (l ++ vput 9 v) r l.length S W h (by rw [List.length_append]; omega)
    rw [hvv] at H3
    have H3 := Lib.hid H3
    have H4 := Lib.hid fun W (hg : Grow w W) (R : Ending → World → Prop) hR => putVarint_any l (.slice A l.length c) v _ W (HB.out.gr (by decide) hg) (by omega) hv (R := R) hR
    have H5 := Lib.hid fun W (R : Ending → World → Prop) hR => rbytes_any v W hv (R := R) hR
    have H6 := Lib.hid fun W (R : Ending → World → Prop) hR => zig_any n W hn (R := R) hR
    have H7 := Lib.hid fun W (R : Ending → World → Prop) hR => rzig_any n W hn (R := R) hR
    have hU1 : U64 v := ⟨by omega, by omega⟩
    have hU2 := zig_u64 n hn
    have hzz := zag_zig n
    have hcb := fun W (hg : Grow w W) => str_u8 (HB.out.gr (by decide) hg)
    have hss := str_add l (vput 9 v)
    clear hvv h2 hn hv
    generalize vput 9 v = V at *
    generalize varint l at_ = X at *
    generalize zig n = Z at *
    obtain ⟨x1, x2, x3⟩ := X
    go_enter Try.func3, Try.ntmps3
    go_wp2_with fail
    refine (H1.out _ _ HB.out).mono ?_
    rintro e w' ⟨rfl, rfl⟩
    go_wp2_with fail
    refine (H2.out _ _ HB.out).mono ?_
    rintro e w' ⟨rfl, rfl⟩
    go_wp2_with fail
    refine H4.out _ (Grow.refl _) _ ?_
    intro r1 w1 hown1 hg1
    have HG1 := Lib.hid hg1
    have HO1 := Lib.hid hown1
    clear hg1 hown1
    go_wp2_with fail
    refine (H3.out _ _ _ (Rd.own HO1.out)).mono ?_
    rintro e w' ⟨rfl, rfl⟩
    go_wp2_with fail
    refine wp_region_lex w HG1.out [0, 1, 4, 5, 6, 2, 3, 7, 8, 9, 10, 11, 12, 13, 14, 15, 16, 17, 18, 19, 20, 21, 22, 24, 23, 25, 26, 27, 28, 29, 30, 31, 32, 33, 34, 35, 36, 37, 38, 39, 40, 41, 42, 43, 44, 45, 46, 47, 48, 50, 49, 51, 52, 53, 54, 55, 57, 56, 58, 59, 60, 61, 62, 65, 63, 64, 66, 67, 68, 69, 70, 71] (by kernel_rfl) (by kernel_rfl) rfl (by kernel_rfl) (by intro c a d v w h; cases d <;> exact h) ?_
    have hgw := HG1.out.dr
    have hws : IntKind.i64.wrap ((l.length : Int) + V.length) = (l.length : Int) + V.length := IntWalk.i64_in _ (by omega)
    have hsz : ¬ 9223372036854775807 < l.length + V.length := by omega
    repeat (first
      | (refine lex_skip rfl (by rfl) ?_)
      | (refine lex_take (v := ?_) rfl ?_ ?_ ?_; rotate_left; (rfl); (intro W h0 h1; go_simp; with_reducible rfl); simp only [Act.put, List.setIfInBounds_toArray, List.set_cons_zero, List.set_cons_succ])
      | (refine lex_turn rfl rfl rfl ?_; intro K hK; go_simp; first
          | (go_at_call 14; refine H4.out _ (by assumption) _ ?_; intro r2 w2 hown2 hg2; have hgw : Grow w w2 := Grow.tr (by assumption) hg2; have hc2 := fun W (hg : Grow w2 W) => str_u8 ((Rd.own_lt hown2).grow hg); clear hown2; refine hK.out _ _ hgw hg2 ?_)
          | (go_at_call 15; refine H5.out _ _ ?_; intro r2 w2 hown2 hg2; have hgw : Grow w w2 := Grow.tr (by assumption) hg2; have hc2 := fun W (hg : Grow w2 W) => str_u8 ((Rd.own_lt hown2).grow hg); obtain ⟨_, A2, c2, hr2e, _, _, _, _⟩ := Rd.own hown2; subst hr2e; clear hown2; refine hK.out _ _ hgw hg2 ?_)
          | (go_at_call 16; refine code7_any _ _ ?_; refine hK.out _ _ (by assumption) (Grow.refl _) ?_)
          | (go_at_call 17; refine H6.out _ _ ?_; refine hK.out _ _ (by assumption) (Grow.refl _) ?_)
          | (go_at_call 18; refine H7.out _ _ ?_; refine hK.out _ _ (by assumption) (Grow.refl _) ?_)
          | (go_at_call 19; refine zag_any _ _ (by assumption) ?_; refine hK.out _ _ (by assumption) (Grow.refl _) ?_)
          | (go_at_call 20; refine rzag_any _ _ (by assumption) ?_; refine hK.out _ _ (by assumption) (Grow.refl _) ?_)
          | (go_at_call 11; refine live_any _ ?_; intro w2 hg2; have hgw : Grow w w2 := Grow.tr (by assumption) hg2; refine hK.out _ _ hgw hg2 ?_)))
    refine lex_nil ?_
    go_wp2
    exact HR.out _ (by assumption)
  · go_enter Try.func3, Try.ntmps3
    go_wp2_with fail
    refine live_any _ fun w1 hg1 => ?_
    have HG1 := Lib.hid hg1
    clear hg1
    go_wp2
    exact HR.out _ HG1.out
end Go.Proofs.Ytehffeglgdcogaa
