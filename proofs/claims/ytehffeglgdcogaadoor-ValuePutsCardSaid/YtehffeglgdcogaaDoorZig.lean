import Derived.Test.YtehffeglgdcogaaDoorChecked
import Derived.Test.YtehffeglgdcogaaDoorBase
import Derived.Test.YtehffeglgdcogaaDoorBits
import Derived.Handy
namespace Go.Proofs.YtehffeglgdcogaaDoor
open Go.RowKit

/-- a number with a sign as one without; and back -/
def zig (n : Int) : Int := if n < 0 then -2 * n - 1 else 2 * n
def zag (v : Int) : Int := if v % 2 = 1 then -(v / 2) - 1 else v / 2

theorem zag_zig (n : Int) : zag (zig n) = n := by unfold zag zig; split <;> split <;> omega

theorem zig_bits (n : Int) (h : I64 n) : bits BinOp.xor IntKind.u64 (IntKind.u64.wrap (IntKind.u64.wrap n * 2)) (IntKind.u64.wrap (n / 9223372036854775808)) = zig n := by
  unfold I64 at h
  simp only [IntKind.wrap_u64]
  unfold zig
  by_cases h0 : n < 0
  · rw [if_pos h0, show n / 9223372036854775808 = -1 by omega, show (-1 : Int) % 18446744073709551616 = 18446744073709551615 by decide, xor_u64_ones _ (by omega)]
    omega
  · rw [if_neg h0, show n / 9223372036854775808 = 0 by omega, show (0 : Int) % 18446744073709551616 = 0 by decide, xor_u64_zero _ (by omega)]
    omega

theorem zag_bits (n : Int) (h : U64 n) : bits BinOp.xor IntKind.i64 (wrap64 (n / 2)) (wrap64 (-wrap64 (bits BinOp.and IntKind.u64 n 1))) = zag n := by
  unfold U64 at h
  rw [and_u64_one _ (by omega), IntWalk.wrap64_in (n / 2) (by omega), IntWalk.wrap64_in (n % 2) (by omega), IntWalk.wrap64_in _ (by omega)]
  unfold zag
  by_cases h0 : n % 2 = 1
  · rw [if_pos h0, h0, xor_i64_ones _ (by omega)]
  · rw [if_neg h0, show n % 2 = 0 by omega]
    exact xor_i64_zero _ (by omega)

set_option maxRecDepth 100000 in
set_option maxHeartbeats 1000000 in
theorem zig_any (n : Int) (w : World) (h : I64 n) {R : Ending → World → Prop} (hR : R (.returned (.int .u64 (zig n))) w) :
    Calls Tryd.prog 32 #[.int .i64 n] w R := by
  go_enter Tryd.func32, Tryd.ntmps32
  go_wp2
  exact at_ hR (ret1 (zig_bits n h))
set_option maxRecDepth 100000 in
set_option maxHeartbeats 1000000 in
theorem rzig_any (n : Int) (w : World) (h : I64 n) {R : Ending → World → Prop} (hR : R (.returned (.int .u64 (zig n))) w) :
    Calls Tryd.prog 35 #[.int .i64 n] w R := by
  have H := Lib.hid h
  unfold I64 at h
  obtain ⟨h1, h2⟩ := h
  by_cases h0 : n < 0
  · go_enter Tryd.func35, Tryd.ntmps35
    go_wp2
    exact at_ hR (ret1 (by unfold zig; rw [if_pos h0]; omega))
  · go_enter Tryd.func35, Tryd.ntmps35
    go_wp2
    exact at_ hR (ret1 (by unfold zig; rw [if_neg (by omega)]))
set_option maxRecDepth 100000 in
set_option maxHeartbeats 1000000 in
theorem zag_any (n : Int) (w : World) (h : U64 n) {R : Ending → World → Prop} (hR : R (.returned (.int .i64 (zag n))) w) :
    Calls Tryd.prog 42 #[.int .u64 n] w R := by
  have h0 : 0 ≤ n := h.1
  go_enter Tryd.func42, Tryd.ntmps42
  go_wp2
  exact at_ hR (ret1 (zag_bits n h))
set_option maxRecDepth 100000 in
set_option maxHeartbeats 1000000 in
theorem rzag_any (n : Int) (w : World) (h : U64 n) {R : Ending → World → Prop} (hR : R (.returned (.int .i64 (zag n))) w) :
    Calls Tryd.prog 30 #[.int .u64 n] w R := by
  have H := Lib.hid h
  unfold U64 at h
  obtain ⟨h1, h2⟩ := h
  by_cases h0 : n % 2 = 1
  · have t : (n % 2 == 1) = true := by simp [h0]
    have h0 := Lib.hid h0
    go_enter Tryd.func30, Tryd.ntmps30
    go_wp2
    exact at_ hR (ret1 (by unfold zag; rw [if_pos h0.out]))
  · have t : (n % 2 == 1) = false := by simp; omega
    have h0 := Lib.hid h0
    go_enter Tryd.func30, Tryd.ntmps30
    go_wp2
    exact at_ hR (ret1 (by unfold zag; rw [if_neg h0.out]))
end Go.Proofs.YtehffeglgdcogaaDoor
