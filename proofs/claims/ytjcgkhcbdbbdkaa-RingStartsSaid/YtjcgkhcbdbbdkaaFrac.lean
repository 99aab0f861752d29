import Derived.Test.YtjcgkhcbdbbdkaaChecked
import Derived.Test.YtjcgkhcbdbbdkaaBase
namespace Go.Proofs.Ytjcgkhcbdbbdkaa
open Go.RowKit

theorem gcd_step (a b : Nat) : Nat.gcd b (a % b) = Nat.gcd a b := by rw [Nat.gcd_comm a b, Nat.gcd_rec b a, Nat.gcd_comm]

set_option maxRecDepth 100000 in
set_option maxHeartbeats 400000 in
theorem gcd_any (a b : Nat) (w : World) (ha : a < 18446744073709551616) (hb : b < 18446744073709551616) {R : Ending → World → Prop}
    (hR : ∀ w', Grow w w' → R (.returned (.int .u64 (Nat.gcd a b : Nat))) w') :
    Calls Try.prog 86 #[.int .u64 a, .int .u64 b] w R := by
  have HR := Lib.hid hR
  clear hR
  go_enter Try.func86, Try.ntmps86
  go_wp2
  go_loopw [0, 1] (fun x y wr => ∃ a' b' : Nat, a' < 18446744073709551616 ∧ b' < 18446744073709551616 ∧ x = .int .u64 a' ∧ y = .int .u64 b' ∧ Hid (Nat.gcd a' b' = Nat.gcd a b) ∧ ∃ n, wr = w.drewN n) (fun _ y _ => (intOf y).toNat)
  case atStart => exact ⟨a, b, ha, hb, rfl, rfl, rfl, 0, rfl⟩
  case round =>
    obtain ⟨x, y, hx, hy, rfl, rfl, hg, n, rfl⟩ := hrel
    by_cases h0 : y = 0
    · subst h0
      go_wp2
      have h := hg.out
      rw [Nat.gcd_zero_right] at h
      rw [h]
      exact HR.out _ ((Grow.refl w).dn _)
    · have t1 : ((y : Int) != 0) = true := by simp; omega
      have t2 : ¬ ((y : Int) = 0) := by omega
      have t3 : ((y : Int) == 0) = false := by simp; omega
      go_wp2
      go_quiet (fail)
      go_wp2
      go_roundw
      case rel =>
        refine ⟨y, x % y, hy, Nat.lt_trans (Nat.mod_lt _ (by omega)) hy, by go_num, ?_, (gcd_step x y).trans hg.out, drewN_ex _ _ _⟩
        go_num
      case measure =>
        have := Nat.mod_lt x (show 0 < y by omega)
        simp [intOf]
        omega

set_option maxRecDepth 100000 in
set_option maxHeartbeats 400000 in
theorem rgcd_any (f : Nat) : ∀ (a b : Nat) (w : World), b < f → a < 18446744073709551616 → b < 18446744073709551616 → ∀ {R : Ending → World → Prop},
    (hR : R (.returned (.int .u64 (Nat.gcd a b : Nat))) w) → Calls Try.prog 54 #[.int .u64 a, .int .u64 b] w R := by
  induction f with
  | zero => intro a b w h; omega
  | succ f ih =>
    intro a b w hf ha hb R hR
    have HR := Lib.hid hR
    clear hR
    by_cases h0 : b = 0
    · subst h0
      go_enter Try.func54, Try.ntmps54
      go_wp2
      have h := HR.out
      rw [Nat.gcd_zero_right] at h
      exact h
    · have t1 : ((b : Int) == 0) = false := by simp; omega
      have t2 : ¬ ((b : Int) = 0) := by omega
      have hm := Nat.mod_lt a (show 0 < b by omega)
      have IH := Lib.hid fun W (R : Ending → World → Prop) hR => ih b (a % b) W (by omega) hb (by omega) (R := R) hR
      clear ih
      go_enter Try.func54, Try.ntmps54
      go_wp2_with fail
      refine IH.out _ _ ?_
      go_wp2
      have h := HR.out
      rw [← gcd_step a b] at h
      exact h

def inw (n : Int) : Bool := decide (-4503599627370496 ≤ n) && decide (n ≤ 4503599627370496)

set_option maxRecDepth 100000 in
set_option maxHeartbeats 400000 in
theorem in_any (n : Int) (w : World) {R : Ending → World → Prop} (hR : R (.returned (.bool (inw n))) w) : Calls Try.prog 85 #[.int .i64 n] w R := by
  have HR : ∀ b, inw n = b → R (.returned (.bool b)) w := by rintro b rfl; exact hR
  have HR := Lib.hid HR
  clear hR
  by_cases h : -4503599627370496 ≤ n
  · have t1 : decide (-4503599627370496 ≤ n) = true := by simp [h]
    go_enter Try.func85, Try.ntmps85
    go_wp2
    simp_all [inw] <;> omega
  · have t1 : decide (-4503599627370496 ≤ n) = false := by simp; omega
    go_enter Try.func85, Try.ntmps85
    go_wp2
    simp_all [inw] <;> omega

set_option maxRecDepth 100000 in
set_option maxHeartbeats 400000 in
theorem rin_any (n : Int) (w : World) {R : Ending → World → Prop} (hR : R (.returned (.bool (inw n))) w) : Calls Try.prog 53 #[.int .i64 n] w R := by
  have HR : ∀ b, inw n = b → R (.returned (.bool b)) w := by rintro b rfl; exact hR
  have HR := Lib.hid HR
  clear hR
  by_cases h : -4503599627370496 ≤ n
  · have t1 : decide (-4503599627370496 ≤ n) = true := by simp [h]
    go_enter Try.func53, Try.ntmps53
    go_wp2
    simp_all [inw] <;> omega
  · have t1 : decide (-4503599627370496 ≤ n) = false := by simp; omega
    go_enter Try.func53, Try.ntmps53
    go_wp2
    simp_all [inw] <;> omega

set_option maxRecDepth 100000 in
set_option maxHeartbeats 400000 in
theorem far_any (n : Int) (w : World) {R : Ending → World → Prop} (hR : R (.returned (.bool (!inw n))) w) : Calls Try.prog 43 #[.int .i64 n] w R := by
  have HR : ∀ b, (!inw n) = b → R (.returned (.bool b)) w := by rintro b rfl; exact hR
  have HR := Lib.hid HR
  clear hR
  by_cases h : -4503599627370496 ≤ n
  · have t1 : decide (n < -4503599627370496) = false := by simp; omega
    go_enter Try.func43, Try.ntmps43
    go_wp2
    simp only [inw, h, decide_true, Bool.true_and, ← decide_not, Int.not_le]
  · have t1 : decide (n < -4503599627370496) = true := by simp; omega
    go_enter Try.func43, Try.ntmps43
    go_wp2
    simp [inw]
    omega

/-- a fraction as it lies: whole part, and R of D -/
structure Fr where
  q : Int
  r : Nat
  d : Nat
def Fr.cells (f : Fr) : List Value := [.int .i64 f.q, .int .u64 f.r, .int .u64 f.d]
def Fr.ok (f : Fr) : Prop := -9223372036854775808 ≤ f.q ∧ f.q ≤ 9223372036854775807 ∧ f.r < 18446744073709551616 ∧ f.d < 18446744073709551616
def Fr.right (f : Fr) : Bool := inw f.q && decide (1 ≤ f.d) && decide (f.d ≤ 9007199254740992) && decide (f.r < f.d) && (Nat.gcd f.r f.d == 1)

set_option maxRecDepth 100000 in
set_option maxHeartbeats 1000000 in
theorem right_any (f : Fr) (w : World) (hf : f.ok) {R : Ending → World → Prop} (hR : ∀ w', Grow w w' → R (.returned (.bool f.right)) w') : Calls Try.prog 55 #[.agg f.cells.toArray] w R := by
  obtain ⟨q, r, d⟩ := f
  obtain ⟨h1, h2, h3, h4⟩ := hf
  dsimp only at h1 h2 h3 h4
  have HR : ∀ b w', (Fr.right ⟨q, r, d⟩) = b → Grow w w' → R (.returned (.bool b)) w' := by rintro b w' rfl h; exact hR _ h
  have HR := Lib.hid HR
  clear hR
  have HG := Lib.hid fun W (R : Ending → World → Prop) hR => gcd_any r d W h3 h4 (R := R) hR
  have HI := Lib.hid fun W (R : Ending → World → Prop) hR => in_any q W (R := R) hR
  unfold Fr.cells
  dsimp only
  cases hq : inw q
  · rw [hq] at HI
    have hq := Lib.hid hq
    go_enter Try.func55, Try.ntmps55
    go_wp2_with (go_at_call 85; refine HI.out _ _ ?_)
    refine HR.out _ _ (by simp [Fr.right, hq.out]) ((Grow.refl w).al _)
  · rw [hq] at HI
    have hq := Lib.hid hq
    by_cases t1 : 1 ≤ d
    · by_cases t2 : d ≤ 9007199254740992
      · by_cases t3 : r < d
        · have hlt : r < d := t3
          go_enter Try.func55, Try.ntmps55
          go_wp2_with (first | (go_at_call 85; refine HI.out _ _ ?_) | (go_at_call 86; refine HG.out _ _ ?_; intro w1 hg1))
          refine HR.out _ _ ?_ (grow_al hg1)
          simp [Fr.right, hq.out, t1, t2, t3]
          rw [Bool.eq_iff_iff]
          simp
          omega
        · have t3' : decide ((r : Int) < d) = false := by simp; omega
          go_enter Try.func55, Try.ntmps55
          go_wp2_with (go_at_call 85; refine HI.out _ _ ?_)
          refine HR.out _ _ (by simp [Fr.right, t3]) ((Grow.refl w).al _)
      · have t2' : decide ((d : Int) ≤ 9007199254740992) = false := by simp; omega
        go_enter Try.func55, Try.ntmps55
        go_wp2_with (go_at_call 85; refine HI.out _ _ ?_)
        refine HR.out _ _ (by simp [Fr.right, t2]) ((Grow.refl w).al _)
    · have t1' : decide (1 ≤ (d : Int)) = false := by simp; omega
      go_enter Try.func55, Try.ntmps55
      go_wp2_with (go_at_call 85; refine HI.out _ _ ?_)
      refine HR.out _ _ (by simp [Fr.right, t1]) ((Grow.refl w).al _)

set_option maxRecDepth 100000 in
set_option maxHeartbeats 1000000 in
theorem rright_any (f : Fr) (w : World) (hf : f.ok) {R : Ending → World → Prop} (hR : ∀ w', Grow w w' → R (.returned (.bool f.right)) w') : Calls Try.prog 23 #[.agg f.cells.toArray] w R := by
  obtain ⟨q, r, d⟩ := f
  obtain ⟨h1, h2, h3, h4⟩ := hf
  dsimp only at h1 h2 h3 h4
  have HR : ∀ b w', (Fr.right ⟨q, r, d⟩) = b → Grow w w' → R (.returned (.bool b)) w' := by rintro b w' rfl h; exact hR _ h
  have HR := Lib.hid HR
  clear hR
  have HG := Lib.hid fun W (R : Ending → World → Prop) hR => rgcd_any (d + 1) r d W (by omega) h3 h4 (R := R) hR
  have HI := Lib.hid fun W (R : Ending → World → Prop) hR => rin_any q W (R := R) hR
  unfold Fr.cells
  dsimp only
  cases hq : inw q
  · rw [hq] at HI
    have hq := Lib.hid hq
    go_enter Try.func23, Try.ntmps23
    go_wp2_with (go_at_call 53; refine HI.out _ _ ?_)
    refine HR.out _ _ (by simp [Fr.right, hq.out]) ((Grow.refl w).al _)
  · rw [hq] at HI
    have hq := Lib.hid hq
    by_cases t1 : 1 ≤ d
    · by_cases t2 : d ≤ 9007199254740992
      · by_cases t3 : r < d
        · have hlt : r < d := t3
          go_enter Try.func23, Try.ntmps23
          go_wp2_with (first | (go_at_call 53; refine HI.out _ _ ?_) | (go_at_call 54; refine HG.out _ _ ?_))
          refine HR.out _ _ ?_ ((Grow.refl w).al _)
          simp [Fr.right, hq.out, t1, t2, t3]
          rw [Bool.eq_iff_iff]
          simp
          omega
        · have t3' : decide ((r : Int) < d) = false := by simp; omega
          go_enter Try.func23, Try.ntmps23
          go_wp2_with (go_at_call 53; refine HI.out _ _ ?_)
          refine HR.out _ _ (by simp [Fr.right, t3]) ((Grow.refl w).al _)
      · have t2' : decide ((d : Int) ≤ 9007199254740992) = false := by simp; omega
        go_enter Try.func23, Try.ntmps23
        go_wp2_with (go_at_call 53; refine HI.out _ _ ?_)
        refine HR.out _ _ (by simp [Fr.right, t2]) ((Grow.refl w).al _)
    · have t1' : decide (1 ≤ (d : Int)) = false := by simp; omega
      go_enter Try.func23, Try.ntmps23
      go_wp2_with (go_at_call 53; refine HI.out _ _ ?_)
      refine HR.out _ _ (by simp [Fr.right, t1]) ((Grow.refl w).al _)

theorem Fr.right_iff {f : Fr} (h : f.right = true) : (-4503599627370496 ≤ f.q ∧ f.q ≤ 4503599627370496) ∧ 1 ≤ f.d ∧ f.d ≤ 9007199254740992 ∧ f.r < f.d ∧ Nat.gcd f.r f.d = 1 := by
  simp [Fr.right, inw] at h
  omega
def Fr.round (f : Fr) : Int := if f.right = true then (if f.d ≤ 2 * f.r then f.q + 1 else f.q) else 0
