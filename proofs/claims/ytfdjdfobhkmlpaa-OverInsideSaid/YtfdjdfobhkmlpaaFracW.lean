/-
   The laws' own helpers of chapter 22: live, code, two; WideMuls.  What a product divided is, in plain Lean.  frac.Make, frac.Same, frac.Of. Fractions of whole numbers of words: Rat, Whole, Order, Plus, Minus. Order, Plus, Minus of fractions. Over of fractions. portolanref23.Is; the law's out. Fractions of whole numbers of words, by their values.
-/
import Derived.Test.YtfdjdfobhkmlpaaChecked
import Derived.Test.YtfdjdfobhkmlpaaCore
import Derived.Test.YtfdjdfobhkmlpaaWide
import Derived.Test.YtfdjdfobhkmlpaaBig
namespace Go.Proofs.Ytfdjdfobhkmlpaa
open Go.RowKit

theorem gcd_step (a b : Nat) : Nat.gcd b (a % b) = Nat.gcd a b := by rw [Nat.gcd_comm a b, Nat.gcd_rec b a, Nat.gcd_comm]

set_option maxRecDepth 100000 in
set_option maxHeartbeats 400000 in
theorem gcd_any (a b : Nat) (w : World) (ha : a < 18446744073709551616) (hb : b < 18446744073709551616) {R : Ending → World → Prop}
    (hR : ∀ w', Grow w w' → R (.returned (.int .u64 (Nat.gcd a b : Nat))) w') :
    Calls Try.prog 79 #[.int .u64 a, .int .u64 b] w R := by
  have HR := Lib.hid hR
  clear hR
  go_enter Try.func79, Try.ntmps79
  go_wp2
  go_loopw [0, 1] (fun x y wr => ∃ a' b' : Nat, a' < 18446744073709551616 ∧ b' < 18446744073709551616 ∧ x = .int .u64 a' ∧ y = .int .u64 b' ∧ Hid (Nat.gcd a' b' = Nat.gcd a b) ∧ ∃ n, wr = w.drewN n) (fun _ y _ => (intOf y).toNat)
  case atStart => exact ⟨a, b, ha, hb, rfl, rfl, rfl, 0, rfl⟩
  case round =>
    obtain ⟨x, y, hx, hy, rfl, rfl, hg, n, rfl⟩ := hrel
    by_cases h0 : y = 0
    · subst h0
      go_wp2
      have h := hg.out
      rw [Nat.gcd_zero_right] at h
      rw [h]
      exact HR.out _ ((Grow.refl w).dn _)
    · have t1 : ((y : Int) != 0) = true := by simp; omega
      have t2 : ¬ ((y : Int) = 0) := by omega
      have t3 : ((y : Int) == 0) = false := by simp; omega
      go_wp2
      go_quiet (fail)
      go_wp2
      go_roundw
      case rel =>
        refine ⟨y, x % y, hy, Nat.lt_trans (Nat.mod_lt _ (by omega)) hy, by go_num, ?_, (gcd_step x y).trans hg.out, drewN_ex _ _ _⟩
        go_num
      case measure =>
        have := Nat.mod_lt x (show 0 < y by omega)
        simp [intOf]
        omega

def inw (n : Int) : Bool := decide (-4503599627370496 ≤ n) && decide (n ≤ 4503599627370496)

set_option maxRecDepth 100000 in
set_option maxHeartbeats 400000 in
theorem in_any (n : Int) (w : World) {R : Ending → World → Prop} (hR : R (.returned (.bool (inw n))) w) : Calls Try.prog 76 #[.int .i64 n] w R := by
  have HR : ∀ b, inw n = b → R (.returned (.bool b)) w := by rintro b rfl; exact hR
  have HR := Lib.hid HR
  clear hR
  by_cases h : -4503599627370496 ≤ n
  · have t1 : decide (-4503599627370496 ≤ n) = true := by simp [h]
    go_enter Try.func76, Try.ntmps76
    go_wp2
    simp_all [inw] <;> omega
  · have t1 : decide (-4503599627370496 ≤ n) = false := by simp; omega
    go_enter Try.func76, Try.ntmps76
    go_wp2
    simp_all [inw] <;> omega

/-- a fraction as it lies: whole part, and R of D -/
structure Fr where
  q : Int
  r : Nat
  d : Nat
def Fr.cells (f : Fr) : List Value := [.int .i64 f.q, .int .u64 f.r, .int .u64 f.d]
def Fr.ok (f : Fr) : Prop := -9223372036854775808 ≤ f.q ∧ f.q ≤ 9223372036854775807 ∧ f.r < 18446744073709551616 ∧ f.d < 18446744073709551616
def Fr.right (f : Fr) : Bool := inw f.q && decide (1 ≤ f.d) && decide (f.d ≤ 9007199254740992) && decide (f.r < f.d) && (Nat.gcd f.r f.d == 1)

set_option maxRecDepth 100000 in
set_option maxHeartbeats 1000000 in
theorem right_any (f : Fr) (w : World) (hf : f.ok) {R : Ending → World → Prop} (hR : ∀ w', Grow w w' → R (.returned (.bool f.right)) w') : Calls Try.prog 72 #[.agg f.cells.toArray] w R := by
  obtain ⟨q, r, d⟩ := f
  obtain ⟨h1, h2, h3, h4⟩ := hf
  dsimp only at h1 h2 h3 h4
  have HR : ∀ b w', (Fr.right ⟨q, r, d⟩) = b → Grow w w' → R (.returned (.bool b)) w' := by rintro b w' rfl h; exact hR _ h
  have HR := Lib.hid HR
  clear hR
  have HG := Lib.hid fun W (R : Ending → World → Prop) hR => gcd_any r d W h3 h4 (R := R) hR
  have HI := Lib.hid fun W (R : Ending → World → Prop) hR => in_any q W (R := R) hR
  unfold Fr.cells
  dsimp only
  cases hq : inw q
  · rw [hq] at HI
    have hq := Lib.hid hq
    go_enter Try.func72, Try.ntmps72
    go_wp2_with (go_at_call 76; refine HI.out _ _ ?_)
    refine HR.out _ _ (by simp [Fr.right, hq.out]) ((Grow.refl w).al _)
  · rw [hq] at HI
    have hq := Lib.hid hq
    by_cases t1 : 1 ≤ d
    · by_cases t2 : d ≤ 9007199254740992
      · by_cases t3 : r < d
        · have hlt : r < d := t3
          go_enter Try.func72, Try.ntmps72
          go_wp2_with (first | (go_at_call 76; refine HI.out _ _ ?_) | (go_at_call 79; refine HG.out _ _ ?_; intro w1 hg1))
          refine HR.out _ _ ?_ (grow_al hg1)
          simp [Fr.right, hq.out, t1, t2, t3]
          rw [Bool.eq_iff_iff]
          simp
          omega
        · have t3' : decide ((r : Int) < d) = false := by simp; omega
          go_enter Try.func72, Try.ntmps72
          go_wp2_with (go_at_call 76; refine HI.out _ _ ?_)
          refine HR.out _ _ (by simp [Fr.right, t3]) ((Grow.refl w).al _)
      · have t2' : decide ((d : Int) ≤ 9007199254740992) = false := by simp; omega
        go_enter Try.func72, Try.ntmps72
        go_wp2_with (go_at_call 76; refine HI.out _ _ ?_)
        refine HR.out _ _ (by simp [Fr.right, t2]) ((Grow.refl w).al _)
    · have t1' : decide (1 ≤ (d : Int)) = false := by simp; omega
      go_enter Try.func72, Try.ntmps72
      go_wp2_with (go_at_call 76; refine HI.out _ _ ?_)
      refine HR.out _ _ (by simp [Fr.right, t1]) ((Grow.refl w).al _)

theorem Fr.right_iff {f : Fr} (h : f.right = true) : (-4503599627370496 ≤ f.q ∧ f.q ≤ 4503599627370496) ∧ 1 ≤ f.d ∧ f.d ≤ 9007199254740992 ∧ f.r < f.d ∧ Nat.gcd f.r f.d = 1 := by
  simp [Fr.right, inw] at h
  omega
def Fr.round (f : Fr) : Int := if f.right = true then (if f.d ≤ 2 * f.r then f.q + 1 else f.q) else 0

set_option maxRecDepth 100000 in
set_option maxHeartbeats 1000000 in
theorem fround_any (f : Fr) (w : World) (hf : f.ok) {R : Ending → World → Prop} (hR : ∀ w', Grow w w' → R (.returned (.int .i64 f.round)) w') : Calls Try.prog 66 #[.agg f.cells.toArray] w R := by
  have HG := Lib.hid fun W (R : Ending → World → Prop) hR => right_any f W hf (R := R) hR
  have HR : ∀ b w', f.round = b → Grow w w' → R (.returned (.int .i64 b)) w' := by rintro b w' rfl h; exact hR _ h
  have HR := Lib.hid HR
  clear hR
  cases hr : f.right
  · rw [hr] at HG
    have hr := Lib.hid hr
    obtain ⟨q, r, d⟩ := f
    unfold Fr.cells at HG ⊢
    dsimp only at HG ⊢
    go_enter Try.func66, Try.ntmps66
    go_wp2_with (go_at_call 72; refine HG.out _ _ ?_; intro w1 hg1)
    refine HR.out _ _ (by simp [Fr.round, hr.out]) (grow_al hg1)
  · rw [hr] at HG
    obtain ⟨⟨h1, h2⟩, h3, h4, h5, _⟩ := Fr.right_iff hr
    have hr := Lib.hid hr
    obtain ⟨q, r, d⟩ := f
    dsimp only at h1 h2 h3 h4 h5
    unfold Fr.cells at HG ⊢
    dsimp only at HG ⊢
    by_cases hc : d ≤ 2 * r
    · have t1 : decide ((d : Int) ≤ 2 * r) = true := by simp; omega
      go_enter Try.func66, Try.ntmps66
      go_wp2_with (go_at_call 72; refine HG.out _ _ ?_; intro w1 hg1; have bx := box_at hg1)
      refine HR.out _ _ (by simp [Fr.round, hr.out, hc]) (grow_al hg1)
    · have t1 : decide ((d : Int) ≤ 2 * r) = false := by simp; omega
      go_enter Try.func66, Try.ntmps66
      go_wp2_with (go_at_call 72; refine HG.out _ _ ?_; intro w1 hg1; have bx := box_at hg1)
      refine HR.out _ _ (by simp [Fr.round, hr.out, hc]) (grow_al hg1)
end Go.Proofs.Ytfdjdfobhkmlpaa

namespace Go.Proofs.Ytfdjdfobhkmlpaa
open Go.RowKit Go.Lib B


end Go.Proofs.Ytfdjdfobhkmlpaa

namespace Go.Proofs.Ytfdjdfobhkmlpaa
open Go.RowKit Go.Lib B

theorem sgnC (x : Int) : cmpI' x 0 = x.sign := by
  unfold cmpI'
  rcases Int.lt_trichotomy x 0 with h | h | h
  · rw [if_pos h, Int.sign_eq_neg_one_of_neg h]
  · subst h; rfl
  · rw [if_neg (by omega), if_pos h, Int.sign_eq_one_of_pos h]
theorem tmS_sign (a b : Int) : tmS a b = (a * b).sign := by
  unfold tmS
  rw [sgnC, sgnC, Int.sign_mul]
theorem cmpI'_lt {x y : Int} (h : x < y) : cmpI' x y = -1 := by unfold cmpI'; rw [if_pos h]
theorem cmpI'_gt {x y : Int} (h : y < x) : cmpI' x y = 1 := by unfold cmpI'; rw [if_neg (by omega), if_pos h]
theorem cmpI'_eq {x y : Int} (h : x = y) : cmpI' x y = 0 := by unfold cmpI'; rw [if_neg (by omega), if_neg (by omega)]
theorem cmp_lex (P Q : Nat) : orL [cmpI' ((P / 18446744073709551616 : Nat) : Int) ((Q / 18446744073709551616 : Nat) : Int), cmpI' ((P % 18446744073709551616 : Nat) : Int) ((Q % 18446744073709551616 : Nat) : Int)] = cmpI' (P : Int) (Q : Int) := by
  obtain ⟨p1, h1⟩ : ∃ p1, P / 18446744073709551616 = p1 := ⟨_, rfl⟩
  obtain ⟨p0, h0⟩ : ∃ p0, P % 18446744073709551616 = p0 := ⟨_, rfl⟩
  obtain ⟨q1, k1⟩ : ∃ q1, Q / 18446744073709551616 = q1 := ⟨_, rfl⟩
  obtain ⟨q0, k0⟩ : ∃ q0, Q % 18446744073709551616 = q0 := ⟨_, rfl⟩
  rw [h1, h0, k1, k0]
  rcases Int.lt_trichotomy (p1 : Int) q1 with h | h | h
  · rw [cmpI'_lt h, cmpI'_lt (show (P : Int) < Q by omega)]; rfl
  · rw [cmpI'_eq h]
    rcases Int.lt_trichotomy (p0 : Int) q0 with k | k | k
    · rw [cmpI'_lt k, cmpI'_lt (show (P : Int) < Q by omega)]; rfl
    · rw [cmpI'_eq k, cmpI'_eq (show (P : Int) = Q by omega)]; rfl
    · rw [cmpI'_gt k, cmpI'_gt (show (Q : Int) < P by omega)]; rfl
  · rw [cmpI'_gt h, cmpI'_gt (show (Q : Int) < P by omega)]; rfl
theorem cmpI'_sign (x y : Int) : cmpI' x y = (x - y).sign := by
  rw [← sgnC]
  unfold cmpI'
  by_cases h : x < y
  · rw [if_pos h, if_pos (by omega)]
  · by_cases h2 : y < x
    · rw [if_neg h, if_pos h2, if_neg (by omega), if_pos (by omega)]
    · rw [if_neg h, if_neg h2, if_neg (by omega), if_neg (by omega)]
theorem cmpW_eq (a b c d : Int) : cmpW a b c d = (a * b - c * d).sign := by
  unfold cmpW
  rw [cmp_lex, tmS_sign, tmS_sign, ← Int.natAbs_mul, ← Int.natAbs_mul]
  generalize a * b = x
  generalize c * d = y
  rw [cmpI'_sign, cmpI'_sign]
  rcases Int.lt_trichotomy x 0 with hx | hx | hx
  · rw [Int.sign_eq_neg_one_of_neg hx]
    rcases Int.lt_trichotomy y 0 with hy | hy | hy
    · rw [Int.sign_eq_neg_one_of_neg hy, if_neg (by decide)]
      rw [show ((x.natAbs : Int) - (y.natAbs : Int)) = -(x - y) by omega, Int.sign_neg]
      omega
    · subst hy
      rw [if_pos (by decide), Int.sub_zero, Int.sign_eq_neg_one_of_neg hx]; rfl
    · rw [Int.sign_eq_one_of_pos hy, if_pos (by decide), Int.sign_eq_neg_one_of_neg (show x - y < 0 by omega)]; rfl
  · subst hx
    rw [if_pos (by simp)]
    rw [Int.sign_zero, Int.zero_sub, Int.zero_sub, Int.sign_neg, Int.sign_neg, Int.sign_sign]
  · rw [Int.sign_eq_one_of_pos hx]
    rcases Int.lt_trichotomy y 0 with hy | hy | hy
    · rw [Int.sign_eq_neg_one_of_neg hy, if_pos (by decide), Int.sign_eq_one_of_pos (show 0 < x - y by omega)]; rfl
    · subst hy
      rw [if_pos (by decide), Int.sub_zero, Int.sign_eq_one_of_pos hx]; rfl
    · rw [Int.sign_eq_one_of_pos hy, if_neg (by decide)]
      rw [show ((x.natAbs : Int) - (y.natAbs : Int)) = x - y by omega]
      omega

end Go.Proofs.Ytfdjdfobhkmlpaa

namespace Go.Proofs.Ytfdjdfobhkmlpaa
open Go.RowKit

theorem mds_big {s : Int} {P d : Nat} {u : Int} (hd : 0 < d) (h : (9223372036854775808 : Int) * d ≤ P) (hs : 0 ≤ s * u) : mdS s P d u = (0, 0, 8) := by
  unfold mdS
  rw [if_neg (by omega), if_pos hs]
  by_cases h1 : d ≤ P / 18446744073709551616
  · rw [if_pos h1]
  · rw [if_neg h1, if_pos]
    have : 9223372036854775808 ≤ P / d := by
      rw [Nat.le_div_iff_mul_le hd]
      omega
    omega
theorem mds_pos {s : Int} {P d : Nat} {u : Int} (hd : 0 < d) (h : (P : Int) < 9223372036854775808 * d) (hs : 0 ≤ s * u) : mdS s P d u = (((P / d : Nat) : Int), P % d, 0) := by
  unfold mdS
  rw [if_neg (by omega), if_pos hs, if_neg, if_neg]
  · have : P / d < 9223372036854775808 := by
      rw [Nat.div_lt_iff_lt_mul hd]
      omega
    omega
  · omega
theorem mds_low {s : Int} {P d : Nat} {u : Int} (hd : 0 < d) (h : (9223372036854775808 : Int) * d < P) (hs : ¬ 0 ≤ s * u) : mdS s P d u = (0, 0, 8) := by
  have h1 := Nat.div_add_mod P d
  have h2 := Nat.mod_lt P hd
  have h3 : 9223372036854775808 ≤ P / d := by
    rw [Nat.le_div_iff_mul_le hd]
    omega
  unfold mdS
  rw [if_neg (by omega), if_neg hs]
  by_cases h4 : d ≤ P / 18446744073709551616
  · rw [if_pos h4]
  · rw [if_neg h4]
    by_cases h5 : 0 < P % d
    · rw [if_pos h5]
      by_cases h6 : P / d = 18446744073709551615
      · rw [if_pos h6]
      · rw [if_neg h6, if_pos (by omega)]
    · rw [if_neg h5, if_pos]
      rcases Nat.lt_or_ge 9223372036854775808 (P / d) with h6 | h6
      · exact h6
      · have h7 : P / d = 9223372036854775808 := by omega
        rw [h7, Nat.mul_comm] at h1
        omega
theorem mds_neg {s : Int} {P d : Nat} {u : Int} (hd : 0 < d) (h : (P : Int) ≤ 9223372036854775808 * d) (hs : ¬ 0 ≤ s * u) :
    ∃ (q : Int) (r : Nat), mdS s P d u = (q, r, 0) ∧ -(P : Int) - q * d = r ∧ r < d ∧ -9223372036854775808 ≤ q ∧ q ≤ 0 := by
  have h1 := Nat.div_add_mod P d
  have h2 := Nat.mod_lt P hd
  have h4 : ¬ d ≤ P / 18446744073709551616 := by omega
  have e1 : ((P / d : Nat) : Int) * (d : Int) = ((d * (P / d) : Nat) : Int) := by rw [Int.natCast_mul, Int.mul_comm]
  unfold mdS
  rw [if_neg (by omega), if_neg h4, if_neg hs]
  by_cases h5 : 0 < P % d
  · rw [if_pos h5]
    have h3 : P / d < 9223372036854775808 := by
      rw [Nat.div_lt_iff_lt_mul hd]
      rcases Nat.lt_or_ge P (9223372036854775808 * d) with h6 | h6
      · exact h6
      · exfalso
        have h7 : P = d * 9223372036854775808 := by omega
        rw [h7, Nat.mul_mod_right] at h5
        omega
    rw [if_neg (by omega), if_neg (by omega)]
    clear h4
    generalize P / d = n at *
    refine ⟨_, _, rfl, ?_, by omega, by omega, by omega⟩
    rw [Int.sub_mul, Int.neg_mul, e1]
    omega
  · have h3 : P / d ≤ 9223372036854775808 := by
      have := Nat.div_le_div_right (c := d) (show P ≤ 9223372036854775808 * d by omega)
      rwa [Nat.mul_div_cancel _ hd] at this
    rw [if_neg h5, if_neg (by omega)]
    clear h4
    generalize P / d = n at *
    refine ⟨_, _, rfl, ?_, by omega, by omega, by omega⟩
    rw [Int.neg_mul, e1]
    omega

/-- P22.2, P22.3: x: the product, with the sign of c; d: the amount of c -/
theorem md_law {a b c x : Int} {d : Nat} (hc : c ≠ 0) (hd : d = c.natAbs) (hx : x = if c < 0 then -(a * b) else a * b) {q : Int} {r : Nat} {e : Int} (h : mdS (tmS a b) (a.natAbs * b.natAbs) c.natAbs (cmpI' c 0) = (q, r, e)) :
    ((x < -9223372036854775808 * (d : Int) ∨ 9223372036854775808 * (d : Int) ≤ x) → q = 0 ∧ r = 0 ∧ e = 8) ∧
    (¬ (x < -9223372036854775808 * (d : Int) ∨ 9223372036854775808 * (d : Int) ≤ x) → e = 0 ∧ x - q * d = r ∧ r < d ∧ I64 q) := by
  rw [tmS_sign, sgnC, ← Int.natAbs_mul, ← hd] at h
  have hdp : 0 < d := by omega
  generalize a * b = y at *
  have hxa : x.natAbs = y.natAbs := by rw [hx]; split <;> simp
  have hsg : y.sign * c.sign = x.sign := by
    rw [hx]
    split
    · rename_i h0
      rw [Int.sign_eq_neg_one_of_neg h0, Int.sign_neg]; omega
    · rw [Int.sign_eq_one_of_pos (show 0 < c by omega)]; omega
  rw [← hxa] at h
  have hs : ∀ v, mdS y.sign x.natAbs d c.sign = v ↔ mdS x.sign x.natAbs d 1 = v := by
    intro v
    unfold mdS
    rw [hsg, Int.mul_one]
  rw [hs] at h
  clear hs hsg hx hxa
  by_cases h0 : 0 ≤ x
  · have hs0 : 0 ≤ x.sign * 1 := by
      rw [Int.mul_one]
      rcases Int.lt_or_eq_of_le h0 with h | h
      · rw [Int.sign_eq_one_of_pos h]; decide
      · rw [← h]; decide
    by_cases hb : 9223372036854775808 * (d : Int) ≤ x
    · rw [mds_big hdp (by omega) hs0] at h
      simp only [Prod.mk.injEq] at h
      obtain ⟨rfl, rfl, rfl⟩ := h
      exact ⟨fun _ => ⟨rfl, rfl, rfl⟩, fun hn => absurd (Or.inr hb) hn⟩
    · rw [mds_pos hdp (by omega) hs0] at h
      simp only [Prod.mk.injEq] at h
      obtain ⟨rfl, rfl, rfl⟩ := h
      have hm := Nat.div_add_mod x.natAbs d
      have hl := Nat.mod_lt x.natAbs hdp
      have hq : x.natAbs / d < 9223372036854775808 := by
        rw [Nat.div_lt_iff_lt_mul hdp]
        omega
      have e1 : ((x.natAbs / d : Nat) : Int) * (d : Int) = ((d * (x.natAbs / d) : Nat) : Int) := by rw [Int.natCast_mul, Int.mul_comm]
      generalize x.natAbs / d = n at *
      refine ⟨fun hn => by omega, fun _ => ⟨rfl, by rw [e1]; omega, hl, by constructor <;> omega⟩⟩
  · have hs0 : ¬ 0 ≤ x.sign * 1 := by
      rw [Int.mul_one, Int.sign_eq_neg_one_of_neg (by omega)]; decide
    by_cases hb : x < -9223372036854775808 * (d : Int)
    · rw [mds_low hdp (by omega) hs0] at h
      simp only [Prod.mk.injEq] at h
      obtain ⟨rfl, rfl, rfl⟩ := h
      exact ⟨fun _ => ⟨rfl, rfl, rfl⟩, fun hn => absurd (Or.inl hb) hn⟩
    · obtain ⟨q', r', e', h1, h2, h3, h4⟩ := mds_neg (P := x.natAbs) (u := 1) hdp (by omega) hs0
      rw [e'] at h
      simp only [Prod.mk.injEq] at h
      obtain ⟨rfl, rfl, rfl⟩ := h
      refine ⟨fun hn => by omega, fun _ => ⟨rfl, by rw [← h1]; omega, h2, by constructor <;> omega⟩⟩
end Go.Proofs.Ytfdjdfobhkmlpaa

namespace Go.Proofs.Ytfdjdfobhkmlpaa
open Go.RowKit Go.Lib B

/-- two cells of a box are written -/
def st2 (W : World) (b : Nat) (u0 u1 : Value) : World := (W.setCell ⟨b, 0, none⟩ u0).setCell ⟨b, 1, none⟩ u1
theorem st2_same {W : World} {b : Nat} {x0 x1 : Value} {t : TypeId} (h : W.heap[b]? = some (.cells #[x0, x1] t (0, 0))) (u0 u1 : Value) : (st2 W b u0 u1).heap[b]? = some (.cells #[u0, u1] t (0, 0)) := by
  have h1 := blk_set (blk_set h 0 u0) 1 u1
  simpa [st2] using h1
theorem st2_other {W : World} {b c : Nat} (hne : c ≠ b) (u0 u1 : Value) : (st2 W b u0 u1).heap[c]? = W.heap[c]? := by
  simp [st2, World.setCell, Array.getElem?_modify, hne.symm]
theorem BigR.st2 {W : World} {S : Nat → Prop} {v : Value} {z : Int} {k b : Nat} (h : BigR W S v z k) (hb : ∀ b', S b' → b' ≠ b) (u0 u1 : Value) : BigR (st2 W b u0 u1) S v z k := (h.set hb u0).set hb u1
theorem Grow.st2 {w W : World} {b : Nat} (h : Grow w W) (hb : w.heap.size ≤ b) (u0 u1 : Value) : Grow w (st2 W b u0 u1) := grow_set2 hb h u0 u1
theorem BigR.both {w : World} {S : Nat → Prop} {v : Value} {z : Int} {k : Nat} (h : BigR w S v z k) : BigR w (fun b => S b ∧ b < w.heap.size) v z k := by
  obtain ⟨h1, m, h2, h3⟩ := h
  exact ⟨h1, m, h2, h3.both (by decide)⟩

end Go.Proofs.Ytfdjdfobhkmlpaa

namespace Go.Proofs.Ytfdjdfobhkmlpaa
open Go.RowKit Go.Lib B

def Fr.zero : Fr := ⟨0, 0, 0⟩
def makeS (q : Int) (r d : Nat) : Fr × Int :=
  if d ≤ r then (⟨0, 0, 0⟩, 1)
  else if Fr.right ⟨q, r / Nat.gcd r d, d / Nat.gcd r d⟩ = true then (⟨q, r / Nat.gcd r d, d / Nat.gcd r d⟩, 0)
  else (⟨0, 0, 0⟩, 8)
theorem grow_set3 {w W : World} {B : Nat} (hB : w.heap.size ≤ B) (hg : Grow w W) (u0 u1 u2 : Value) : Grow w (((W.setCell ⟨B, 0, none⟩ u0).setCell ⟨B, 1, none⟩ u1).setCell ⟨B, 2, none⟩ u2) :=
  ((hg.set (p := ⟨B, 0, none⟩) hB u0).set (p := ⟨B, 1, none⟩) hB u1).set (p := ⟨B, 2, none⟩) hB u2


set_option maxRecDepth 100000 in
set_option maxHeartbeats 2000000 in
theorem make_any (q : Int) (r d : Nat) (w : World) (hq : -9223372036854775808 ≤ q ∧ q ≤ 9223372036854775807) (hr : r < 18446744073709551616) (hd : d < 18446744073709551616) {R : Ending → World → Prop}
    (hR : ∀ w' f e, makeS q r d = (f, e) → Grow w w' → R (.returned (.tuple #[.agg f.cells.toArray, .int .i64 e])) w') :
    Calls Try.prog 78 #[.int .i64 q, .int .u64 r, .int .u64 d] w R := by
  have HR := Lib.hid hR
  clear hR
  unfold makeS at HR
  obtain ⟨q1, q2⟩ := hq
  by_cases hle : d ≤ r
  · have t1 : decide (d ≤ r) = true := decide_eq_true hle
    have h := Lib.hid fun w' g => HR.out w' ⟨0, 0, 0⟩ 1 (by rw [if_pos hle]) g
    clear HR hle
    go_enter Try.func78, Try.ntmps78
    go_wp2
    refine bodyPost_ret (v := .tuple #[.agg #[.int .i64 0, .int .u64 0, .int .u64 0], .int .i64 1]) (by simp [results, Try.f78, go_sem]) rfl (h.out _ ((Grow.refl w).al _))
  · have t1 : decide (d ≤ r) = false := decide_eq_false hle
    rw [if_neg hle] at HR
    have GC := Lib.hid fun W (R : Ending → World → Prop) hR => gcd_any r d W hr hd (R := R) hR
    have hg0 : Nat.gcd r d ≠ 0 := by
      intro h
      have := Nat.eq_zero_of_gcd_eq_zero_right h
      omega
    obtain ⟨g, hg⟩ : ∃ g, Nat.gcd r d = g := ⟨_, rfl⟩
    rw [hg] at GC HR hg0
    obtain ⟨x, hx⟩ : ∃ x, r / g = x := ⟨_, rfl⟩
    obtain ⟨y, hy⟩ : ∃ y, d / g = y := ⟨_, rfl⟩
    have hxb : x < 18446744073709551616 := by rw [← hx]; exact Nat.lt_of_le_of_lt (Nat.div_le_self _ _) hr
    have hyb : y < 18446744073709551616 := by rw [← hy]; exact Nat.lt_of_le_of_lt (Nat.div_le_self _ _) hd
    have e1 : IntKind.u64.wrap ((r : Int) / g) = (x : Int) := by rw [← Int.natCast_ediv, hx]; exact IntWalk.u64_in _ (by omega)
    have e2 : IntKind.u64.wrap ((d : Int) / g) = (y : Int) := by rw [← Int.natCast_ediv, hy]; exact IntWalk.u64_in _ (by omega)
    have e3 : ¬ (g : Int) = 0 := by omega
    have e4 : ((g : Int) == 0) = false := by rw [beq_eq_false_iff_ne]; exact e3
    rw [hx, hy] at HR
    have FR := Lib.hid fun W (R : Ending → World → Prop) hR => right_any ⟨q, x, y⟩ W ⟨q1, q2, hxb, hyb⟩ (R := R) hR
    unfold Fr.cells at FR
    dsimp only at FR
    obtain ⟨ok, hok⟩ : ∃ ok, Fr.right ⟨q, x, y⟩ = ok := ⟨_, rfl⟩
    rw [hok] at FR HR
    clear hg hx hy hok hle
    cases ok with
    | true =>
      have h := Lib.hid fun w' g => HR.out w' ⟨q, x, y⟩ 0 (by simp) g
      clear HR
      go_enter Try.func78, Try.ntmps78
      go_wp2_with fail
      go_at_call 79
      refine GC.out _ _ ?_
      intro w1 hg1
      have G1 := Lib.hid (grow_al hg1)
      have K1 := Lib.hid (blk_al _ _ _ hg1)
      clear hg1
      go_wp2_with fail
      refine wp_region_lexT (Grow w1) ((Grow.refl w1).dr) 9 [0, 1, 2, 3, 4, 5, 6, 7, 8] (by kernel_rfl) (by kernel_rfl) (by intro c a d v w h; cases d <;> exact h) ?_
      iterate 8 (apply lext_take; exact rfl; exact rfl; (intro W hW; (try clear hW); go_simp; with_reducible rfl); try simp only [Act.put, List.setIfInBounds_toArray, List.set_cons_zero, List.set_cons_succ])
      apply lext_turn; exact rfl; exact rfl; exact rfl; intro K hK; go_simp; refine hK.out _ _ ((Grow.refl w1).dr.al _) ?_; clear hK; try simp only [Act.put, List.setIfInBounds_toArray, List.set_cons_zero, List.set_cons_succ]
      refine lext_nil ?_
      simp only [List.drop_succ_cons, List.drop_zero]
      go_wp2_with fail
      go_at_call 72
      refine FR.out _ _ ?_
      intro w2 hg2
      have G2 := Lib.hid (((Grow.refl w1).al (.cells #[.int .i64 q, .int .u64 (x : Nat), .int .u64 (y : Nat)] 89)).dr.tr hg2)
      have K2 := K1.out
      have hb3 := grow_blk (((Grow.refl w1).al (.cells #[.int .i64 q, .int .u64 (x : Nat), .int .u64 (y : Nat)] 89)).dr.tr hg2) K1.out
      have BX := box_at (grow_drew hg2)
      clear hg2 K2
      have c0 := cell_of_row _ w.heap.size 0 _ _ (0, 0) hb3
      have f0 := frozen_of_row _ w.heap.size 0 _ _ hb3
      have b1 := blk_set hb3 0 (.int .i64 q)
      have c1 := cell_of_row _ w.heap.size 1 _ _ (0, 0) b1
      have f1 := frozen_of_row _ w.heap.size 1 _ _ b1
      have b2 := blk_set b1 1 (.int .u64 (x : Nat))
      have c2 := cell_of_row _ w.heap.size 2 _ _ (0, 0) b2
      have f2 := frozen_of_row _ w.heap.size 2 _ _ b2
      have b3 := blk_set b2 2 (.int .u64 (y : Nat))
      have r0 := cell_of_row _ w.heap.size 0 _ _ (0, 0) b3
      have r1 := cell_of_row _ w.heap.size 1 _ _ (0, 0) b3
      have r2 := cell_of_row _ w.heap.size 2 _ _ (0, 0) b3
      simp only [List.setIfInBounds_toArray, List.set_cons_zero, List.set_cons_succ] at c0 c1 c2 r0 r1 r2
      clear b1 b2 b3
      clear hb3
      go_wp2
      refine bodyPost_ret (v := .tuple #[.agg #[.int .i64 q, (.int .u64 (x : Nat)), (.int .u64 (y : Nat))], .int .i64 0]) (by simp [results, Try.f78, go_sem, r0, r1, r2]) rfl (h.out _ ?_)
      exact grow_set3 (Nat.le_refl _) (G1.out.tr G2.out) _ _ _
    | false =>
      have h := Lib.hid fun w' g => HR.out w' ⟨0, 0, 0⟩ 8 (by simp) g
      clear HR
      go_enter Try.func78, Try.ntmps78
      go_wp2_with fail
      go_at_call 79
      refine GC.out _ _ ?_
      intro w1 hg1
      have G1 := Lib.hid (grow_al hg1)
      have K1 := Lib.hid (blk_al _ _ _ hg1)
      clear hg1
      go_wp2_with fail
      refine wp_region_lexT (Grow w1) ((Grow.refl w1).dr) 9 [0, 1, 2, 3, 4, 5, 6, 7, 8] (by kernel_rfl) (by kernel_rfl) (by intro c a d v w h; cases d <;> exact h) ?_
      iterate 8 (apply lext_take; exact rfl; exact rfl; (intro W hW; (try clear hW); go_simp; with_reducible rfl); try simp only [Act.put, List.setIfInBounds_toArray, List.set_cons_zero, List.set_cons_succ])
      apply lext_turn; exact rfl; exact rfl; exact rfl; intro K hK; go_simp; refine hK.out _ _ ((Grow.refl w1).dr.al _) ?_; clear hK; try simp only [Act.put, List.setIfInBounds_toArray, List.set_cons_zero, List.set_cons_succ]
      refine lext_nil ?_
      simp only [List.drop_succ_cons, List.drop_zero]
      go_wp2_with fail
      go_at_call 72
      refine FR.out _ _ ?_
      intro w2 hg2
      have G2 := Lib.hid (((Grow.refl w1).al (.cells #[.int .i64 q, .int .u64 (x : Nat), .int .u64 (y : Nat)] 89)).dr.tr hg2)
      have K2 := K1.out
      have hb3 := grow_blk (((Grow.refl w1).al (.cells #[.int .i64 q, .int .u64 (x : Nat), .int .u64 (y : Nat)] 89)).dr.tr hg2) K1.out
      have BX := box_at (grow_drew hg2)
      clear hg2 K2
      have c0 := cell_of_row _ w.heap.size 0 _ _ (0, 0) hb3
      have f0 := frozen_of_row _ w.heap.size 0 _ _ hb3
      have b1 := blk_set hb3 0 (.int .i64 0)
      have c1 := cell_of_row _ w.heap.size 1 _ _ (0, 0) b1
      have f1 := frozen_of_row _ w.heap.size 1 _ _ b1
      have b2 := blk_set b1 1 (.int .u64 0)
      have c2 := cell_of_row _ w.heap.size 2 _ _ (0, 0) b2
      have f2 := frozen_of_row _ w.heap.size 2 _ _ b2
      have b3 := blk_set b2 2 (.int .u64 0)
      have r0 := cell_of_row _ w.heap.size 0 _ _ (0, 0) b3
      have r1 := cell_of_row _ w.heap.size 1 _ _ (0, 0) b3
      have r2 := cell_of_row _ w.heap.size 2 _ _ (0, 0) b3
      simp only [List.setIfInBounds_toArray, List.set_cons_zero, List.set_cons_succ] at c0 c1 c2 r0 r1 r2
      clear b1 b2 b3
      clear hb3
      go_wp2
      refine bodyPost_ret (v := .tuple #[.agg #[.int .i64 0, (.int .u64 0), (.int .u64 0)], .int .i64 8]) (by simp [results, Try.f78, go_sem, r0, r1, r2]) rfl (h.out _ ?_)
      exact grow_set3 (Nat.le_refl _) (G1.out.tr G2.out) _ _ _

def Fr.same (f g : Fr) : Bool := decide (f.q = g.q) && decide (f.r = g.r) && decide (f.d = g.d)
theorem Fr.same_self (f : Fr) : f.same f = true := by simp [Fr.same]
/-- two fractions are the same, or differ first here or there -/
theorem Fr.split (f g : Fr) : (f = g ∧ f.same g = true) ∨ (((f.q == g.q) = false ∨ f.q = g.q ∧ (((f.r : Int) == g.r) = false ∨ f.r = g.r ∧ ((f.d : Int) == g.d) = false)) ∧ f.same g = false) := by
  obtain ⟨a, b, c⟩ := f
  obtain ⟨x, y, z⟩ := g
  simp only [Fr.same, Fr.mk.injEq, Bool.and_eq_true, Bool.and_eq_false_iff, decide_eq_true_eq, decide_eq_false_iff_not, beq_eq_false_iff_ne]
  omega

set_option maxRecDepth 100000 in
set_option maxHeartbeats 1000000 in
theorem of23_any (q : Int) (w : World) {R : Ending → World → Prop} (hR : ∀ w', Grow w w' → R (.returned (.agg #[.int .i64 q, .int .u64 0, .int .u64 1])) w') :
    Calls Try.prog 58 #[.int .i64 q] w R := by
  have HR := Lib.hid hR
  clear hR
  go_enter Try.func58, Try.ntmps58
  go_wp2
  exact bodyPost_ret (v := .agg #[.int .i64 q, .int .u64 0, .int .u64 1]) (by simp [results, Try.f58, go_sem]) rfl (HR.out _ ((Grow.refl w).al _))
end Go.Proofs.Ytfdjdfobhkmlpaa

namespace Go.Proofs.Ytfdjdfobhkmlpaa
open Go.RowKit Go.Lib B

/-- v holds the fraction n / d -/
def RatR (w : World) (S : Nat → Prop) (v : Value) (n d : Int) (k j : Nat) : Prop :=
  ∃ p A x c p' A' x' c', v = .agg #[.bool p, .slice A x c, .bool p', .slice A' x' c'] ∧ BigR w S (.agg #[.bool p, .slice A x c]) n k ∧ BigR w S (.agg #[.bool p', .slice A' x' c']) d j
theorem RatR.gr {w w' : World} {S : Nat → Prop} {v : Value} {n d : Int} {k j : Nat} (h : RatR w S v n d k j) (hg : Grow w w') : RatR w' S v n d k j := by
  obtain ⟨p, A, x, c, p', A', x', c', h1, h2, h3⟩ := h
  exact ⟨p, A, x, c, p', A', x', c', h1, h2.gr hg, h3.gr hg⟩
theorem RatR.into {w : World} {S T : Nat → Prop} {v : Value} {n d : Int} {k j : Nat} (h : RatR w S v n d k j) (hk : ∀ b, S b → T b) : RatR w T v n d k j := by
  obtain ⟨p, A, x, c, p', A', x', c', h1, h2, h3⟩ := h
  exact ⟨p, A, x, c, p', A', x', c', h1, h2.into hk, h3.into hk⟩
theorem RatR.both {w : World} {S : Nat → Prop} {v : Value} {n d : Int} {k j : Nat} (h : RatR w S v n d k j) : RatR w (fun b => S b ∧ b < w.heap.size) v n d k j := by
  obtain ⟨p, A, x, c, p', A', x', c', h1, h2, h3⟩ := h
  exact ⟨p, A, x, c, p', A', x', c', h1, h2.both, h3.both⟩

def st4 (W : World) (b : Nat) (u0 u1 u2 u3 : Value) : World := (((W.setCell ⟨b, 0, none⟩ u0).setCell ⟨b, 1, none⟩ u1).setCell ⟨b, 2, none⟩ u2).setCell ⟨b, 3, none⟩ u3
theorem BigR.st4 {W : World} {S : Nat → Prop} {v : Value} {z : Int} {k b : Nat} (h : BigR W S v z k) (hb : ∀ b', S b' → b' ≠ b) (u0 u1 u2 u3 : Value) : BigR (st4 W b u0 u1 u2 u3) S v z k := (((h.set hb u0).set hb u1).set hb u2).set hb u3
theorem Grow.st4 {w W : World} {b : Nat} (h : Grow w W) (hb : w.heap.size ≤ b) (u0 u1 u2 u3 : Value) : Grow w (st4 W b u0 u1 u2 u3) :=
  (((h.set (p := ⟨b, 0, none⟩) hb u0).set (p := ⟨b, 1, none⟩) hb u1).set (p := ⟨b, 2, none⟩) hb u2).set (p := ⟨b, 3, none⟩) hb u3
theorem st4_same {W : World} {b : Nat} {x0 x1 x2 x3 : Value} {t : TypeId} (h : W.heap[b]? = some (.cells #[x0, x1, x2, x3] t (0, 0))) (u0 u1 u2 u3 : Value) : (st4 W b u0 u1 u2 u3).heap[b]? = some (.cells #[u0, u1, u2, u3] t (0, 0)) := by
  have h1 := blk_set (blk_set (blk_set (blk_set h 0 u0) 1 u1) 2 u2) 3 u3
  simpa [st4] using h1
theorem st4_other {W : World} {b c : Nat} (hne : c ≠ b) (u0 u1 u2 u3 : Value) : (st4 W b u0 u1 u2 u3).heap[c]? = W.heap[c]? := by
  simp [st4, World.setCell, Array.getElem?_modify, hne.symm]


end Go.Proofs.Ytfdjdfobhkmlpaa

namespace Go.Proofs.Ytfdjdfobhkmlpaa
open Go.RowKit Go.Lib B

end Go.Proofs.Ytfdjdfobhkmlpaa

namespace Go.Proofs.Ytfdjdfobhkmlpaa
open Go.RowKit Go.Lib B


end Go.Proofs.Ytfdjdfobhkmlpaa

namespace Go.Proofs.Ytfdjdfobhkmlpaa
open Go.RowKit Go.Lib B

end Go.Proofs.Ytfdjdfobhkmlpaa

namespace Go.Proofs.Ytfdjdfobhkmlpaa
open Go.RowKit Go.Lib B


theorem div_lt_div_iff' {a b c d : Rat} (hb : 0 < b) (hd : 0 < d) : a / b < c / d ↔ a * d < c * b := by
  rw [Rat.div_lt_iff hb]
  rw [show c / d * b = (c * b) / d by grind, Rat.lt_div_iff hd]
def cmpR (a b : Rat) : Int := if a < b then -1 else if b < a then 1 else 0
theorem cmpR_sign (n1 d1 n2 d2 : Int) (h1 : 0 < d1) (h2 : 0 < d2) : (n1 * d2 - n2 * d1).sign = cmpR ((n1 : Rat) / d1) ((n2 : Rat) / d2) := by
  have h1' : (0 : Rat) < d1 := by exact_mod_cast h1
  have h2' : (0 : Rat) < d2 := by exact_mod_cast h2
  have k1 : ((n1 : Rat) / d1 < (n2 : Rat) / d2) ↔ n1 * d2 < n2 * d1 := by
    rw [div_lt_div_iff' h1' h2']; exact_mod_cast Iff.rfl
  have k2 : ((n2 : Rat) / d2 < (n1 : Rat) / d1) ↔ n2 * d1 < n1 * d2 := by
    rw [div_lt_div_iff' h2' h1']; exact_mod_cast Iff.rfl
  unfold cmpR
  rcases Int.lt_trichotomy (n1 * d2) (n2 * d1) with h | h | h
  · rw [if_pos (k1.2 h), Int.sign_eq_neg_one_of_neg (by omega)]
  · rw [if_neg (fun x => by have := k1.1 x; omega), if_neg (fun x => by have := k2.1 x; omega), h]; simp
  · rw [if_neg (fun x => by have := k1.1 x; omega), if_pos (k2.2 h), Int.sign_eq_one_of_pos (by omega)]
theorem cast_pos {d : Int} (h : 0 < d) : (0 : Rat) < d := by exact_mod_cast h
theorem addq (n1 d1 n2 d2 : Int) (h1 : 0 < d1) (h2 : 0 < d2) : (((n1 * d2 + n2 * d1 : Int)) : Rat) / ((d1 * d2 : Int) : Rat) = (n1 : Rat) / d1 + n2 / d2 := by
  have := cast_pos h1
  have := cast_pos h2
  push_cast
  grind
theorem subq (n1 d1 n2 d2 : Int) (h1 : 0 < d1) (h2 : 0 < d2) : (((n1 * d2 + -n2 * d1 : Int)) : Rat) / ((d1 * d2 : Int) : Rat) = (n1 : Rat) / d1 - n2 / d2 := by
  have := cast_pos h1
  have := cast_pos h2
  push_cast
  grind
theorem mulq (n1 d1 n2 d2 : Int) (h1 : 0 < d1) (h2 : 0 < d2) : (((n1 * n2 : Int)) : Rat) / ((d1 * d2 : Int) : Rat) = (n1 : Rat) / d1 * (n2 / d2) := by
  have := cast_pos h1
  have := cast_pos h2
  push_cast
  grind
theorem divq (n1 d1 n2 d2 : Int) (h1 : 0 < d1) (h2 : 0 < d2) (hn : n2 ≠ 0) : (((if d1 * n2 < 0 then -(n1 * d2) else n1 * d2 : Int)) : Rat) / ((if d1 * n2 < 0 then -(d1 * n2) else d1 * n2 : Int) : Rat) = (n1 : Rat) / d1 / (n2 / d2) := by
  have := cast_pos h1
  have := cast_pos h2
  have h3 : (n2 : Rat) ≠ 0 := by exact_mod_cast hn
  split
  · push_cast; grind
  · push_cast; grind
theorem cmpR_eq (a b : Rat) : cmpR a b = 0 ↔ a = b := by
  unfold cmpR
  split
  · constructor
    · intro h; cases h
    · intro h; grind
  · split
    · constructor
      · intro h; cases h
      · intro h; grind
    · constructor
      · intro; grind
      · intro; rfl
theorem cmpR_gt (a b : Rat) : 0 < cmpR a b ↔ b < a := by
  unfold cmpR
  split
  · constructor
    · intro h; omega
    · intro h; grind
  · split
    · simp_all
    · simp_all
theorem cmpR_lt (a b : Rat) : cmpR a b < 0 ↔ a < b := by
  unfold cmpR
  split
  · simp_all
  · split
    · simp_all
    · simp_all
theorem cmpR_le (a b : Rat) : cmpR a b ≤ 0 ↔ a ≤ b := by
  have := cmpR_gt a b
  rw [← Int.not_lt, this]
  exact Rat.not_lt
theorem cmpR_ge (a b : Rat) : 0 ≤ cmpR a b ↔ b ≤ a := by
  have := cmpR_lt a b
  rw [← Int.not_lt, this]
  exact Rat.not_lt

/-- a whole number of words, a fraction of two: what lies in the cells -/
structure BV where
  p : Bool
  A : Option Addr
  n : Nat
  c : Nat
structure RV where
  nu : BV
  de : BV
  q : Rat
def RV.cells (r : RV) : List Value := [.bool r.nu.p, .slice r.nu.A r.nu.n r.nu.c, .bool r.de.p, .slice r.de.A r.de.n r.de.c]
def RV.rd (r : RV) (w : World) (S : Nat → Prop) (k : Nat) : Prop := ∃ n d : Int, 0 < d ∧ r.q = (n : Rat) / (d : Rat) ∧ RatR w S (.agg r.cells.toArray) n d k k
theorem RatR.up {w : World} {S : Nat → Prop} {v : Value} {n d : Int} {k j k' j' : Nat} (h : RatR w S v n d k j) (hk : k ≤ k') (hj : j ≤ j') : RatR w S v n d k' j' := by
  obtain ⟨p, A, x, c, p', A', x', c', h1, h2, h3⟩ := h
  exact ⟨p, A, x, c, p', A', x', c', h1, h2.up hk, h3.up hj⟩
theorem RatR.rv {w : World} {S : Nat → Prop} {v : Value} {n d : Int} {k j : Nat} (h : RatR w S v n d k j) (hd : 0 < d) {k' : Nat} (hk : k ≤ k') (hj : j ≤ k') : ∃ r : RV, v = .agg r.cells.toArray ∧ r.q = (n : Rat) / (d : Rat) ∧ r.rd w S k' := by
  obtain ⟨p, A, x, c, p', A', x', c', rfl, h2, h3⟩ := h
  exact ⟨⟨⟨p, A, x, c⟩, ⟨p', A', x', c'⟩, (n : Rat) / (d : Rat)⟩, rfl, rfl, n, d, hd, rfl, _, _, _, _, _, _, _, _, rfl, h2.up hk, h3.up hj⟩
theorem RV.rd.gr {r : RV} {w w' : World} {S : Nat → Prop} {k : Nat} (h : r.rd w S k) (hg : Grow w w') : r.rd w' S k := by
  obtain ⟨n, d, h1, h2, h3⟩ := h
  exact ⟨n, d, h1, h2, h3.gr hg⟩
theorem RV.rd.into {r : RV} {w : World} {S T : Nat → Prop} {k : Nat} (h : r.rd w S k) (hk : ∀ b, S b → T b) : r.rd w T k := by
  obtain ⟨n, d, h1, h2, h3⟩ := h
  exact ⟨n, d, h1, h2, h3.into hk⟩
theorem RV.rd.up {r : RV} {w : World} {S : Nat → Prop} {k k' : Nat} (h : r.rd w S k) (hk : k ≤ k') : r.rd w S k' := by
  obtain ⟨n, d, h1, h2, h3⟩ := h
  exact ⟨n, d, h1, h2, h3.up hk hk⟩
theorem RV.rd.both {r : RV} {w : World} {S : Nat → Prop} {k : Nat} (h : r.rd w S k) : r.rd w (fun b => S b ∧ b < w.heap.size) k := by
  obtain ⟨n, d, h1, h2, h3⟩ := h
  exact ⟨n, d, h1, h2, h3.both⟩
theorem RatR.set {w : World} {S : Nat → Prop} {v : Value} {n d : Int} {k j : Nat} (h : RatR w S v n d k j) {B i : Nat} (hB : ∀ b, S b → b ≠ B) (u : Value) : RatR (w.setCell ⟨B, i, none⟩ u) S v n d k j := by
  obtain ⟨p, A, x, c, p', A', x', c', h1, h2, h3⟩ := h
  exact ⟨p, A, x, c, p', A', x', c', h1, h2.set hB u, h3.set hB u⟩
theorem RV.rd.set {r : RV} {w : World} {S : Nat → Prop} {k : Nat} (h : r.rd w S k) {B i : Nat} (hB : ∀ b, S b → b ≠ B) (u : Value) : r.rd (w.setCell ⟨B, i, none⟩ u) S k := by
  obtain ⟨n, d, h1, h2, h3⟩ := h
  exact ⟨n, d, h1, h2, h3.set hB u⟩

def Fr.val (f : Fr) : Rat := (f.q : Rat) + (f.r : Rat) / (f.d : Rat)
end Go.Proofs.Ytfdjdfobhkmlpaa
