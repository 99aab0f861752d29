/-
  Lines of spots that are alike: slices.Equal, line.Same.
-/
import Derived.Test.YtjcgkhcbdbbdkaaChecked
import Derived.Test.YtjcgkhcbdbbdkaaRngL
import Derived.BigQuiet
namespace Go.Proofs.Ytjcgkhcbdbbdkaa
open Go.RowKit B

set_option maxRecDepth 100000 in
set_option maxHeartbeats 2000000 in
theorem sEqual_any (a b : Value) (l : List Spot) (S T : Nat → Prop) (w : World) (ha : Rd w S 6 a l.length (Spots l)) (hb : Rd w T 6 b l.length (Spots l)) {R : Ending → World → Prop}
    (hR : ∀ w', Grow w w' → R (.returned (.bool true)) w') :
    Calls Try.prog 70 #[a, b] w R := by
  have ha := ha.lt (by decide)
  have hb := hb.lt (by decide)
  obtain ⟨_, A, c, rfl, h1, h2, h3, h4⟩ := ha
  obtain ⟨_, B, d, rfl, k1, k2, k3, k4⟩ := hb
  unfold maxLen at h2 k2
  have HR := Lib.hid hR
  clear hR h3 k3
  have heq : ((l.length : Int) != l.length) = false := by simp
  go_enter Try.func70, Try.ntmps70
  go_wp2
  go_loopw [13] (fun i wr => ∃ k : Nat, k ≤ l.length ∧ i = .int .i64 k ∧ ∃ n, wr = w.drewN n) (fun i _ => l.length - (intOf i).toNat)
  case atStart => exact ⟨0, Nat.zero_le _, rfl, 0, rfl⟩
  case round =>
    obtain ⟨k, hk, rfl, n, rfl⟩ := hrel
    by_cases hlt : k < l.length
    · obtain ⟨b1, o1, rfl, hb1, hc1⟩ := h4 (by omega)
      obtain ⟨b2, o2, rfl, hb2, hc2⟩ := k4 (by omega)
      have e1 := flat_cells Spot.cells_len (Grow.refl w) hb1 hc1 hlt
      have e2 := flat_cells Spot.cells_len (Grow.refl w) hb2 hc2 hlt
      clear hc1 hc2 h4 k4
      generalize l[k] = x at *
      obtain ⟨⟨x1, x2, x3⟩, ⟨x4, x5, x6⟩⟩ := x
      have c0 := e1 0 _ rfl
      have c1 := e1 1 _ rfl
      have c2 := e1 2 _ rfl
      have c3 := e1 3 _ rfl
      have c4 := e1 4 _ rfl
      have c5 := e1 5 _ rfl
      have d0 := e2 0 _ rfl
      have d1 := e2 1 _ rfl
      have d2 := e2 2 _ rfl
      have d3 := e2 3 _ rfl
      have d4 := e2 4 _ rfl
      have d5 := e2 5 _ rfl
      simp only [Nat.add_zero] at c0 d0
      clear e1 e2
      go_wp2
      go_quiet (fail)
      go_wp2
      go_roundw
      case rel => exact ⟨k + 1, by omega, by go_num, _, rfl⟩
      case measure => simp [intOf]; omega
    · obtain rfl : k = l.length := by omega
      clear h4 k4
      go_wp2
      exact HR.out _ ((Grow.refl w).dn _)
set_option maxRecDepth 100000 in
set_option maxHeartbeats 200000 in
theorem lsame_any (a b : Value) (l : List Spot) (S T : Nat → Prop) (w : World) (ha : Rd w S 6 a l.length (Spots l)) (hb : Rd w T 6 b l.length (Spots l)) {R : Ending → World → Prop}
    (hR : ∀ w', Grow w w' → R (.returned (.bool true)) w') :
    Calls Try.prog 37 #[a, b] w R := by
  have HR := Lib.hid hR
  clear hR
  have SE := Lib.hid fun (R : Ending → World → Prop) hR => sEqual_any a b l S T w ha hb (R := R) hR
  go_enter Try.func37, Try.ntmps37
  go_wp2_with fail
  go_at_call 70
  refine SE.out _ ?_
  intro w1 hg1
  have G1 := Lib.hid hg1
  go_wp2
  exact HR.out _ G1.out
end Go.Proofs.Ytjcgkhcbdbbdkaa
