import Derived.Test.YteeeeddeacepmaaGreatDoorWide
namespace Go.Proofs.YteeeeddeacepmaaGreatDoor
set_option maxRecDepth 100000
open Go.RowKit
theorem gcd_step (a b : Nat) : Nat.gcd b (a % b) = Nat.gcd a b := by rw [Nat.gcd_comm a b, Nat.gcd_rec b a, Nat.gcd_comm]
set_option maxHeartbeats 400000 in
theorem gcd_any (a b : Nat) (w : World) (ha : a < 18446744073709551616) (hb : b < 18446744073709551616) {R : Ending -> World -> Prop}
  (hR : ∀ w', Grow w w' -> R (.returned (.int .u64 (Nat.gcd a b : Nat))) w') :
  Calls Tryz.prog 143 #[.int .u64 a, .int .u64 b] w R := by
 have HR := Lh hR; clear hR; go_enter Tryz.func143, Tryz.ntmps143
 go_wp2
 go_loopw [0, 1] (fun x y wr => ∃ a' b' : Nat, a' < 18446744073709551616 /\ b' < 18446744073709551616 /\ x = .int .u64 a' /\ y = .int .u64 b' /\ Hid (Nat.gcd a' b' = Nat.gcd a b) /\ ∃ n, wr = w.drewN n) (fun _ y _ => (intOf y).toNat)
 case atStart => exact ⟨a, b, ha, hb, rfl, rfl, rfl, 0, rfl⟩
 case round =>
  obtain ⟨x, y, hx, hy, rfl, rfl, hg, n, rfl⟩ := hrel
  by_cases h0 : y = 0
  ·subst h0
   go_wp2; have h := hg.out; rw [Nat.gcd_zero_right] at h; rw [h]; exact HR.out _ ((Grow.refl w).dn _)
  ·have t1 : ((y : Int) != 0) = true := by simp; omega
   have t2 : ¬ ((y : Int) = 0) := by omega
   have t3 : ((y : Int) == 0) = false := by simp; omega
   go_wp2
   go_quiet (fail)
   go_wp2; go_roundw
   case rel =>
    refine ⟨y, x % y, hy, Nat.lt_trans (Nat.mod_lt _ (by omega)) hy, by go_num, ?_, (gcd_step x y).trans hg.out, drewN_ex _ _ _⟩
    go_num
   case measure =>
    have := Nat.mod_lt x (show 0 < y by omega); simp [intOf]
    omega
set_option maxHeartbeats 400000 in
theorem rgcd_any (f : Nat) : ∀ (a b : Nat) (w : World), b < f -> a < 18446744073709551616 -> b < 18446744073709551616 -> ∀ {R : Ending -> World -> Prop},
  (hR : R (.returned (.int .u64 (Nat.gcd a b : Nat))) w) -> Calls Tryz.prog 19 #[.int .u64 a, .int .u64 b] w R := by
 induction f with
 | zero => intro a b w h; omega
 | succ f ih =>
  intro a b w hf ha hb R hR; have HR := Lh hR; clear hR
  by_cases h0 : b = 0
  ·subst h0
   go_enter Tryz.func19, Tryz.ntmps19
   go_wp2; have h := HR.out; rw [Nat.gcd_zero_right] at h; exact h
  ·have t1 : ((b : Int) == 0) = false := by simp; omega
   have t2 : ¬ ((b : Int) = 0) := by omega
   have hm := Nat.mod_lt a (show 0 < b by omega); have IH := Lh fun W (R : Ending -> World -> Prop) hR => ih b (a % b) W (by omega) hb (by omega) (R := R) hR
   clear ih; go_enter Tryz.func19, Tryz.ntmps19
   go_wp2_with fail
   refine IH.out _ _ ?_; go_wp2; have h := HR.out; rw [<- gcd_step a b] at h; exact h
def inw (n : Int) : Bool := decide (-4503599627370496 <= n) && decide (n <= 4503599627370496)
set_option maxHeartbeats 400000 in
theorem in_any (n : Int) (w : World) {R : Ending -> World -> Prop} (hR : R (.returned (.bool (inw n))) w) : Calls Tryz.prog 99 #[.int .i64 n] w R := by
 have HR : ∀ b, inw n = b -> R (.returned (.bool b)) w := by rintro b rfl; exact hR
 have HR := Lh HR; clear hR
 by_cases h : -4503599627370496 <= n
 ·have t1 : decide (-4503599627370496 <= n) = true := by simp [h]
  go_enter Tryz.func99, Tryz.ntmps99
  go_wp2; simp_all [inw] <;> omega
 ·have t1 : decide (-4503599627370496 <= n) = false := by simp; omega
  go_enter Tryz.func99, Tryz.ntmps99
  go_wp2; simp_all [inw] <;> omega
set_option maxHeartbeats 400000 in
theorem rin_any (n : Int) (w : World) {R : Ending -> World -> Prop} (hR : R (.returned (.bool (inw n))) w) : Calls Tryz.prog 18 #[.int .i64 n] w R := by
 have HR : ∀ b, inw n = b -> R (.returned (.bool b)) w := by rintro b rfl; exact hR
 have HR := Lh HR; clear hR
 by_cases h : -4503599627370496 <= n
 ·have t1 : decide (-4503599627370496 <= n) = true := by simp [h]
  go_enter Tryz.func18, Tryz.ntmps18
  go_wp2; simp_all [inw] <;> omega
 ·have t1 : decide (-4503599627370496 <= n) = false := by simp; omega
  go_enter Tryz.func18, Tryz.ntmps18
  go_wp2; simp_all [inw] <;> omega
structure Fr where
 q : Int
 r : Nat
 d : Nat
def Fr.cells (f : Fr) : List Value := [.int .i64 f.q, .int .u64 f.r, .int .u64 f.d]
def Fr.ok (f : Fr) : Prop := -9223372036854775808 <= f.q /\ f.q <= 9223372036854775807 /\ f.r < 18446744073709551616 /\ f.d < 18446744073709551616
def Fr.right (f : Fr) : Bool := inw f.q && decide (1 <= f.d) && decide (f.d <= 9007199254740992) && decide (f.r < f.d) && (Nat.gcd f.r f.d == 1)
set_option maxHeartbeats 1000000 in
theorem right_any (f : Fr) (w : World) (hf : f.ok) {R : Ending -> World -> Prop} (hR : ∀ w', Grow w w' -> R (.returned (.bool f.right)) w') : Calls Tryz.prog 94 #[.agg f.cells.toArray] w R := by
 obtain ⟨q, r, d⟩ := f; obtain ⟨h1, h2, h3, h4⟩ := hf; dsimp only at h1 h2 h3 h4; have HR : ∀ b w', (Fr.right ⟨q, r, d⟩) = b -> Grow w w' -> R (.returned (.bool b)) w' := by rintro b w' rfl h; exact hR _ h
 have HR := Lh HR; clear hR; have HG := Lh fun W (R : Ending -> World -> Prop) hR => gcd_any r d W h3 h4 (R := R) hR
 have HI := Lh fun W (R : Ending -> World -> Prop) hR => in_any q W (R := R) hR
 unfold Fr.cells; dsimp only
 cases hq : inw q
 ·rw [hq] at HI
  have hq := Lh hq; go_enter Tryz.func94, Tryz.ntmps94
  go_wp2_with (go_at_call 99; refine HI.out _ _ ?_)
  refine HR.out _ _ (by simp [Fr.right, hq.out]) ((Grow.refl w).al _)
 ·rw [hq] at HI
  have hq := Lh hq
  by_cases t1 : 1 <= d
  ·by_cases t2 : d <= 9007199254740992
   ·by_cases t3 : r < d
    ·have hlt : r < d := t3
     go_enter Tryz.func94, Tryz.ntmps94
     go_wp2_with (first | (go_at_call 99; refine HI.out _ _ ?_) | (go_at_call 143; refine HG.out _ _ ?_; intro w1 hg1))
     refine HR.out _ _ ?_ (grow_al hg1); simp [Fr.right, hq.out, t1, t2, t3]
     rw [Bool.eq_iff_iff]; simp
     omega
    ·have t3' : decide ((r : Int) < d) = false := by simp; omega
     go_enter Tryz.func94, Tryz.ntmps94
     go_wp2_with (go_at_call 99; refine HI.out _ _ ?_)
     refine HR.out _ _ (by simp [Fr.right, t3]) ((Grow.refl w).al _)
   ·have t2' : decide ((d : Int) <= 9007199254740992) = false := by simp; omega
    go_enter Tryz.func94, Tryz.ntmps94
    go_wp2_with (go_at_call 99; refine HI.out _ _ ?_)
    refine HR.out _ _ (by simp [Fr.right, t2]) ((Grow.refl w).al _)
  ·have t1' : decide (1 <= (d : Int)) = false := by simp; omega
   go_enter Tryz.func94, Tryz.ntmps94
   go_wp2_with (go_at_call 99; refine HI.out _ _ ?_)
   refine HR.out _ _ (by simp [Fr.right, t1]) ((Grow.refl w).al _)
set_option maxHeartbeats 1000000 in
theorem rright_any (f : Fr) (w : World) (hf : f.ok) {R : Ending -> World -> Prop} (hR : ∀ w', Grow w w' -> R (.returned (.bool f.right)) w') : Calls Tryz.prog 5 #[.agg f.cells.toArray] w R := by
 obtain ⟨q, r, d⟩ := f; obtain ⟨h1, h2, h3, h4⟩ := hf; dsimp only at h1 h2 h3 h4; have HR : ∀ b w', (Fr.right ⟨q, r, d⟩) = b -> Grow w w' -> R (.returned (.bool b)) w' := by rintro b w' rfl h; exact hR _ h
 have HR := Lh HR; clear hR; have HG := Lh fun W (R : Ending -> World -> Prop) hR => rgcd_any (d + 1) r d W (by omega) h3 h4 (R := R) hR
 have HI := Lh fun W (R : Ending -> World -> Prop) hR => rin_any q W (R := R) hR
 unfold Fr.cells; dsimp only
 cases hq : inw q
 ·rw [hq] at HI
  have hq := Lh hq; go_enter Tryz.func5, Tryz.ntmps5
  go_wp2_with (go_at_call 18; refine HI.out _ _ ?_)
  refine HR.out _ _ (by simp [Fr.right, hq.out]) ((Grow.refl w).al _)
 ·rw [hq] at HI
  have hq := Lh hq
  by_cases t1 : 1 <= d
  ·by_cases t2 : d <= 9007199254740992
   ·by_cases t3 : r < d
    ·have hlt : r < d := t3
     go_enter Tryz.func5, Tryz.ntmps5
     go_wp2_with (first | (go_at_call 18; refine HI.out _ _ ?_) | (go_at_call 19; refine HG.out _ _ ?_))
     refine HR.out _ _ ?_ ((Grow.refl w).al _); simp [Fr.right, hq.out, t1, t2, t3]
     rw [Bool.eq_iff_iff]; simp
     omega
    ·have t3' : decide ((r : Int) < d) = false := by simp; omega
     go_enter Tryz.func5, Tryz.ntmps5
     go_wp2_with (go_at_call 18; refine HI.out _ _ ?_)
     refine HR.out _ _ (by simp [Fr.right, t3]) ((Grow.refl w).al _)
   ·have t2' : decide ((d : Int) <= 9007199254740992) = false := by simp; omega
    go_enter Tryz.func5, Tryz.ntmps5
    go_wp2_with (go_at_call 18; refine HI.out _ _ ?_)
    refine HR.out _ _ (by simp [Fr.right, t2]) ((Grow.refl w).al _)
  ·have t1' : decide (1 <= (d : Int)) = false := by simp; omega
   go_enter Tryz.func5, Tryz.ntmps5
   go_wp2_with (go_at_call 18; refine HI.out _ _ ?_)
   refine HR.out _ _ (by simp [Fr.right, t1]) ((Grow.refl w).al _)
theorem Fr.right_iff {f : Fr} (h : f.right = true) : (-4503599627370496 <= f.q /\ f.q <= 4503599627370496) /\ 1 <= f.d /\ f.d <= 9007199254740992 /\ f.r < f.d /\ Nat.gcd f.r f.d = 1 := by
 simp [Fr.right, inw] at h
 omega
def Fr.round (f : Fr) : Int := if f.right = true then (if f.d <= 2 * f.r then f.q + 1 else f.q) else 0
end Go.Proofs.YteeeeddeacepmaaGreatDoor
namespace Go.Proofs.YteeeeddeacepmaaGreatDoor
set_option maxRecDepth 100000
open Go.RowKit Go.Lib B
end Go.Proofs.YteeeeddeacepmaaGreatDoor
namespace Go.Proofs.YteeeeddeacepmaaGreatDoor
set_option maxRecDepth 100000
open Go.RowKit Go.Lib B
theorem sgnC (x : Int) : cmpI' x 0 = x.sign := by
 unfold cmpI'; rcases Int.lt_trichotomy x 0 with h | h | h
 ·rw [if_pos h, Int.sign_eq_neg_one_of_neg h]
 ·subst h; rfl
 ·rw [if_neg (by omega), if_pos h, Int.sign_eq_one_of_pos h]
theorem tmS_sign (a b : Int) : tmS a b = (a * b).sign := by
 unfold tmS; rw [sgnC, sgnC, Int.sign_mul]
end Go.Proofs.YteeeeddeacepmaaGreatDoor
namespace Go.Proofs.YteeeeddeacepmaaGreatDoor
set_option maxRecDepth 100000
open Go.RowKit
theorem mds_big {s : Int} {P d : Nat} {u : Int} (hd : 0 < d) (h : (9223372036854775808 : Int) * d <= P) (hs : 0 <= s * u) : mdS s P d u = (0, 0, 8) := by
 unfold mdS; rw [if_neg (by omega), if_pos hs]
 by_cases h1 : d <= P / 18446744073709551616
 ·rw [if_pos h1]
 ·rw [if_neg h1, if_pos]
  have : 9223372036854775808 <= P / d := by
   rw [Nat.le_div_iff_mul_le hd]; omega
  omega
theorem mds_pos {s : Int} {P d : Nat} {u : Int} (hd : 0 < d) (h : (P : Int) < 9223372036854775808 * d) (hs : 0 <= s * u) : mdS s P d u = (((P / d : Nat) : Int), P % d, 0) := by
 unfold mdS; rw [if_neg (by omega), if_pos hs, if_neg, if_neg]
 ·have : P / d < 9223372036854775808 := by
   rw [Nat.div_lt_iff_lt_mul hd]; omega
  omega
 ·omega
theorem mds_low {s : Int} {P d : Nat} {u : Int} (hd : 0 < d) (h : (9223372036854775808 : Int) * d < P) (hs : ¬ 0 <= s * u) : mdS s P d u = (0, 0, 8) := by
 have h1 := Nat.div_add_mod P d; have h2 := Nat.mod_lt P hd
 have h3 : 9223372036854775808 <= P / d := by
  rw [Nat.le_div_iff_mul_le hd]; omega
 unfold mdS; rw [if_neg (by omega), if_neg hs]
 by_cases h4 : d <= P / 18446744073709551616
 ·rw [if_pos h4]
 ·rw [if_neg h4]
  by_cases h5 : 0 < P % d
  ·rw [if_pos h5]
   by_cases h6 : P / d = 18446744073709551615
   ·rw [if_pos h6]
   ·rw [if_neg h6, if_pos (by omega)]
  ·rw [if_neg h5, if_pos]
   rcases Nat.lt_or_ge 9223372036854775808 (P / d) with h6 | h6
   ·exact h6
   ·have h7 : P / d = 9223372036854775808 := by omega
    rw [h7, Nat.mul_comm] at h1; omega
theorem mds_neg {s : Int} {P d : Nat} {u : Int} (hd : 0 < d) (h : (P : Int) <= 9223372036854775808 * d) (hs : ¬ 0 <= s * u) :
  ∃ (q : Int) (r : Nat), mdS s P d u = (q, r, 0) /\ -(P : Int) - q * d = r /\ r < d /\ -9223372036854775808 <= q /\ q <= 0 := by
 have h1 := Nat.div_add_mod P d; have h2 := Nat.mod_lt P hd; have h4 : ¬ d <= P / 18446744073709551616 := by omega
 have e1 : ((P / d : Nat) : Int) * (d : Int) = ((d * (P / d) : Nat) : Int) := by rw [Int.natCast_mul, Int.mul_comm]
 unfold mdS; rw [if_neg (by omega), if_neg h4, if_neg hs]
 by_cases h5 : 0 < P % d
 ·rw [if_pos h5]
  have h3 : P / d < 9223372036854775808 := by
   rw [Nat.div_lt_iff_lt_mul hd]; rcases Nat.lt_or_ge P (9223372036854775808 * d) with h6 | h6
   ·exact h6
   ·exfalso
    have h7 : P = d * 9223372036854775808 := by omega
    rw [h7, Nat.mul_mod_right] at h5; omega
  rw [if_neg (by omega), if_neg (by omega)]; clear h4; generalize P / d = n at *; refine ⟨_, _, rfl, ?_, by omega, by omega, by omega⟩; rw [Int.sub_mul, Int.neg_mul, e1]; omega
 ·have h3 : P / d <= 9223372036854775808 := by
   have := Nat.div_le_div_right (c := d) (show P <= 9223372036854775808 * d by omega)
   rwa [Nat.mul_div_cancel _ hd] at this
  rw [if_neg h5, if_neg (by omega)]; clear h4; generalize P / d = n at *; refine ⟨_, _, rfl, ?_, by omega, by omega, by omega⟩; rw [Int.neg_mul, e1]; omega
theorem md_law {a b c x : Int} {d : Nat} (hc : c ≠ 0) (hd : d = c.natAbs) (hx : x = if c < 0 then -(a * b) else a * b) {q : Int} {r : Nat} {e : Int} (h : mdS (tmS a b) (a.natAbs * b.natAbs) c.natAbs (cmpI' c 0) = (q, r, e)) :
  ((x < -9223372036854775808 * (d : Int) ∨ 9223372036854775808 * (d : Int) <= x) -> q = 0 /\ r = 0 /\ e = 8) /\
  (¬ (x < -9223372036854775808 * (d : Int) ∨ 9223372036854775808 * (d : Int) <= x) -> e = 0 /\ x - q * d = r /\ r < d /\ I64 q) := by
 rw [tmS_sign, sgnC, <- Int.natAbs_mul, <- hd] at h; have hdp : 0 < d := by omega
 generalize a * b = y at *; have hxa : x.natAbs = y.natAbs := by rw [hx]; split <;> simp
 have hsg : y.sign * c.sign = x.sign := by
  rw [hx]
  split
  ·rename_i h0
   rw [Int.sign_eq_neg_one_of_neg h0, Int.sign_neg]; omega
  ·rw [Int.sign_eq_one_of_pos (show 0 < c by omega)]; omega
 rw [<- hxa] at h
 have hs : ∀ v, mdS y.sign x.natAbs d c.sign = v ↔ mdS x.sign x.natAbs d 1 = v := by
  intro v; unfold mdS; rw [hsg, Int.mul_one]
 rw [hs] at h; clear hs hsg hx hxa
 by_cases h0 : 0 <= x
 ·have hs0 : 0 <= x.sign * 1 := by
   rw [Int.mul_one]; rcases Int.lt_or_eq_of_le h0 with h | h
   ·rw [Int.sign_eq_one_of_pos h]; decide
   ·rw [<- h]; decide
  by_cases hb : 9223372036854775808 * (d : Int) <= x
  ·rw [mds_big hdp (by omega) hs0] at h
   simp only [Prod.mk.injEq] at h; obtain ⟨rfl, rfl, rfl⟩ := h; exact ⟨fun _ => ⟨rfl, rfl, rfl⟩, fun hn => absurd (Or.inr hb) hn⟩
  ·rw [mds_pos hdp (by omega) hs0] at h
   simp only [Prod.mk.injEq] at h; obtain ⟨rfl, rfl, rfl⟩ := h; have hm := Nat.div_add_mod x.natAbs d; have hl := Nat.mod_lt x.natAbs hdp
   have hq : x.natAbs / d < 9223372036854775808 := by
    rw [Nat.div_lt_iff_lt_mul hdp]; omega
   have e1 : ((x.natAbs / d : Nat) : Int) * (d : Int) = ((d * (x.natAbs / d) : Nat) : Int) := by rw [Int.natCast_mul, Int.mul_comm]
   generalize x.natAbs / d = n at *; refine ⟨fun hn => by omega, fun _ => ⟨rfl, by rw [e1]; omega, hl, by constructor <;> omega⟩⟩
 ·have hs0 : ¬ 0 <= x.sign * 1 := by
   rw [Int.mul_one, Int.sign_eq_neg_one_of_neg (by omega)]; decide
  by_cases hb : x < -9223372036854775808 * (d : Int)
  ·rw [mds_low hdp (by omega) hs0] at h
   simp only [Prod.mk.injEq] at h; obtain ⟨rfl, rfl, rfl⟩ := h; exact ⟨fun _ => ⟨rfl, rfl, rfl⟩, fun hn => absurd (Or.inl hb) hn⟩
  ·obtain ⟨q', r', e', h1, h2, h3, h4⟩ := mds_neg (P := x.natAbs) (u := 1) hdp (by omega) hs0
   rw [e'] at h; simp only [Prod.mk.injEq] at h; obtain ⟨rfl, rfl, rfl⟩ := h; refine ⟨fun hn => by omega, fun _ => ⟨rfl, by rw [<- h1]; omega, h2, by constructor <;> omega⟩⟩
end Go.Proofs.YteeeeddeacepmaaGreatDoor
namespace Go.Proofs.YteeeeddeacepmaaGreatDoor
set_option maxRecDepth 100000
open Go.RowKit Go.Lib B
def st2 (W : World) (b : Nat) (u0 u1 : Value) : World := (W.setCell ⟨b, 0, none⟩ u0).setCell ⟨b, 1, none⟩ u1
theorem st2_same {W : World} {b : Nat} {x0 x1 : Value} {t : TypeId} (h : W.heap[b]? = some (.cells #[x0, x1] t (0, 0))) (u0 u1 : Value) : (st2 W b u0 u1).heap[b]? = some (.cells #[u0, u1] t (0, 0)) := by
 have h1 := blk_set (blk_set h 0 u0) 1 u1; simpa [st2] using h1
theorem st2_other {W : World} {b c : Nat} (hne : c ≠ b) (u0 u1 : Value) : (st2 W b u0 u1).heap[c]? = W.heap[c]? := by
 simp [st2, World.setCell, Array.getElem?_modify, hne.symm]
theorem BigR.st2 {W : World} {S : Nat -> Prop} {v : Value} {z : Int} {k b : Nat} (h : BigR W S v z k) (hb : ∀ b', S b' -> b' ≠ b) (u0 u1 : Value) : BigR (st2 W b u0 u1) S v z k := (h.set hb u0).set hb u1
theorem Grow.st2 {w W : World} {b : Nat} (h : Grow w W) (hb : w.heap.size <= b) (u0 u1 : Value) : Grow w (st2 W b u0 u1) := grow_set2 hb h u0 u1
theorem BigR.both {w : World} {S : Nat -> Prop} {v : Value} {z : Int} {k : Nat} (h : BigR w S v z k) : BigR w (fun b => S b /\ b < w.heap.size) v z k := by
 obtain ⟨h1, m, h2, h3⟩ := h; exact ⟨h1, m, h2, h3.both (by decide)⟩
structure NumBox (W : World) (b : Nat) (p : Bool) (A : Option Addr) (n c : Nat) (z : Int) (k : Nat) (S : Nat -> Prop) : Prop where
 blk : W.heap[b]? = some (.cells #[.bool p, .slice A n c] 40 (0, 0))
 big : BigR W S (.agg #[.bool p, .slice A n c]) z k
theorem NumBox.gr {W W' : World} {b : Nat} {p : Bool} {A : Option Addr} {n c : Nat} {z : Int} {k : Nat} {S : Nat -> Prop} (h : NumBox W b p A n c z k S) (hg : Grow W W') : NumBox W' b p A n c z k S := ⟨grow_blk hg h.blk, h.big.gr hg⟩
theorem NumBox.st2 {W : World} {b b' : Nat} {p : Bool} {A : Option Addr} {n c : Nat} {z : Int} {k : Nat} {S : Nat -> Prop} (h : NumBox W b p A n c z k S) (hne : b ≠ b') (hS : ∀ x, S x -> x ≠ b') (u0 u1 : Value) : NumBox (st2 W b' u0 u1) b p A n c z k S :=
 ⟨(st2_other hne u0 u1).trans h.blk, h.big.st2 hS u0 u1⟩
theorem NumBox.c0 {W : World} {b : Nat} {p : Bool} {A : Option Addr} {n c : Nat} {z : Int} {k : Nat} {S : Nat -> Prop} (h : NumBox W b p A n c z k S) : W.cell? ⟨b, 0, none⟩ = some (.bool p) := cell_of_row _ b 0 _ _ (0, 0) h.blk
theorem NumBox.c1 {W : World} {b : Nat} {p : Bool} {A : Option Addr} {n c : Nat} {z : Int} {k : Nat} {S : Nat -> Prop} (h : NumBox W b p A n c z k S) : W.cell? ⟨b, 1, none⟩ = some (.slice A n c) := cell_of_row _ b 1 _ _ (0, 0) h.blk
end Go.Proofs.YteeeeddeacepmaaGreatDoor
namespace Go.Proofs.YteeeeddeacepmaaGreatDoor
set_option maxRecDepth 100000
open Go.RowKit Go.Lib B
def Fr.zero : Fr := ⟨0, 0, 0⟩
def makeS (q : Int) (r d : Nat) : Fr × Int :=
 if d <= r then (⟨0, 0, 0⟩, 1)
 else if Fr.right ⟨q, r / Nat.gcd r d, d / Nat.gcd r d⟩ = true then (⟨q, r / Nat.gcd r d, d / Nat.gcd r d⟩, 0)
 else (⟨0, 0, 0⟩, 8)
theorem grow_set3 {w W : World} {B : Nat} (hB : w.heap.size <= B) (hg : Grow w W) (u0 u1 u2 : Value) : Grow w (((W.setCell ⟨B, 0, none⟩ u0).setCell ⟨B, 1, none⟩ u1).setCell ⟨B, 2, none⟩ u2) :=
 ((hg.set (p := ⟨B, 0, none⟩) hB u0).set (p := ⟨B, 1, none⟩) hB u1).set (p := ⟨B, 2, none⟩) hB u2
set_option maxHeartbeats 2000000 in
theorem make_any (q : Int) (r d : Nat) (w : World) (hq : -9223372036854775808 <= q /\ q <= 9223372036854775807) (hr : r < 18446744073709551616) (hd : d < 18446744073709551616) {R : Ending -> World -> Prop}
  (hR : ∀ w' f e, makeS q r d = (f, e) -> Grow w w' -> R (.returned (.tuple #[.agg f.cells.toArray, .int .i64 e])) w') :
  Calls Tryz.prog 101 #[.int .i64 q, .int .u64 r, .int .u64 d] w R := by
 have HR := Lh hR; clear hR; unfold makeS at HR; obtain ⟨q1, q2⟩ := hq
 by_cases hle : d <= r
 ·have t1 : decide (d <= r) = true := decide_eq_true hle
  have h := Lh fun w' g => HR.out w' ⟨0, 0, 0⟩ 1 (by rw [if_pos hle]) g
  clear HR hle; go_enter Tryz.func101, Tryz.ntmps101
  go_wp2; refine bodyPost_ret (v := .tuple #[.agg #[.int .i64 0, .int .u64 0, .int .u64 0], .int .i64 1]) (by simp [results, Tryz.f101, go_sem]) rfl (h.out _ ((Grow.refl w).al _))
 ·have t1 : decide (d <= r) = false := decide_eq_false hle
  rw [if_neg hle] at HR; have GC := Lh fun W (R : Ending -> World -> Prop) hR => gcd_any r d W hr hd (R := R) hR
  have hg0 : Nat.gcd r d ≠ 0 := by
   intro h; have := Nat.eq_zero_of_gcd_eq_zero_right h; omega
  obtain ⟨g, hg⟩ : ∃ g, Nat.gcd r d = g := ⟨_, rfl⟩
  rw [hg] at GC HR hg0
  obtain ⟨x, hx⟩ : ∃ x, r / g = x := ⟨_, rfl⟩
  obtain ⟨y, hy⟩ : ∃ y, d / g = y := ⟨_, rfl⟩
  have hxb : x < 18446744073709551616 := by rw [<- hx]; exact Nat.lt_of_le_of_lt (Nat.div_le_self _ _) hr
  have hyb : y < 18446744073709551616 := by rw [<- hy]; exact Nat.lt_of_le_of_lt (Nat.div_le_self _ _) hd
  have e1 : IntKind.u64.wrap ((r : Int) / g) = (x : Int) := by rw [<- Int.natCast_ediv, hx]; exact IntWalk.u64_in _ (by omega)
  have e2 : IntKind.u64.wrap ((d : Int) / g) = (y : Int) := by rw [<- Int.natCast_ediv, hy]; exact IntWalk.u64_in _ (by omega)
  have e3 : ¬ (g : Int) = 0 := by omega
  have e4 : ((g : Int) == 0) = false := by rw [beq_eq_false_iff_ne]; exact e3
  rw [hx, hy] at HR; have FR := Lh fun W (R : Ending -> World -> Prop) hR => right_any ⟨q, x, y⟩ W ⟨q1, q2, hxb, hyb⟩ (R := R) hR
  unfold Fr.cells at FR; dsimp only at FR
  obtain ⟨ok, hok⟩ : ∃ ok, Fr.right ⟨q, x, y⟩ = ok := ⟨_, rfl⟩
  rw [hok] at FR HR; clear hg hx hy hok hle
  cases ok with
  | true =>
   have h := Lh fun w' g => HR.out w' ⟨q, x, y⟩ 0 (by simp) g
   clear HR; go_enter Tryz.func101, Tryz.ntmps101
   go_wp2_with fail
   go_at_call 143; refine GC.out _ _ ?_; intro w1 hg1; have G1 := Lh (grow_al hg1); have K1 := Lh (blk_al _ _ _ hg1); clear hg1; go_wp2_with fail
   refine wp_region_lexT (Grow w1) ((Grow.refl w1).dr) 9 [0, 1, 2, 3, 4, 5, 6, 7, 8] (by kernel_rfl) (by kernel_rfl) (by intro c a d v w h; cases d <;> exact h) ?_
   iterate 8 (apply lext_take; exact rfl; exact rfl; (intro W hW; (try clear hW); go_simp; with_reducible rfl); try simp only [Act.put, sA, sZ, sS])
   apply lext_turn; exact rfl; exact rfl; exact rfl; intro K hK; go_simp; refine hK.out _ _ ((Grow.refl w1).dr.al _) ?_; clear hK; try simp only [Act.put, sA, sZ, sS]
   refine lext_nil ?_; simp only [List.drop_succ_cons, List.drop_zero]; go_wp2_with fail
   go_at_call 94; refine FR.out _ _ ?_; intro w2 hg2; have G2 := Lh (((Grow.refl w1).al (.cells #[.int .i64 q, .int .u64 (x : Nat), .int .u64 (y : Nat)] 27)).dr.tr hg2); have K2 := K1.out; have hb3 := grow_blk (((Grow.refl w1).al (.cells #[.int .i64 q, .int .u64 (x : Nat), .int .u64 (y : Nat)] 27)).dr.tr hg2) K1.out; have BX := box_at (grow_drew hg2); clear hg2 K2; have c0 := cell_of_row _ w.heap.size 0 _ _ (0, 0) hb3; have f0 := frozen_of_row _ w.heap.size 0 _ _ hb3; have b1 := blk_set hb3 0 (.int .i64 q); have c1 := cell_of_row _ w.heap.size 1 _ _ (0, 0) b1
   have f1 := frozen_of_row _ w.heap.size 1 _ _ b1; have b2 := blk_set b1 1 (.int .u64 (x : Nat)); have c2 := cell_of_row _ w.heap.size 2 _ _ (0, 0) b2; have f2 := frozen_of_row _ w.heap.size 2 _ _ b2; have b3 := blk_set b2 2 (.int .u64 (y : Nat)); have r0 := cell_of_row _ w.heap.size 0 _ _ (0, 0) b3; have r1 := cell_of_row _ w.heap.size 1 _ _ (0, 0) b3; have r2 := cell_of_row _ w.heap.size 2 _ _ (0, 0) b3; simp only [sA, sZ, sS] at c0 c1 c2 r0 r1 r2; clear b1 b2 b3; clear hb3; go_wp2
   refine bodyPost_ret (v := .tuple #[.agg #[.int .i64 q, (.int .u64 (x : Nat)), (.int .u64 (y : Nat))], .int .i64 0]) (by simp [results, Tryz.f101, go_sem, r0, r1, r2]) rfl (h.out _ ?_); exact grow_set3 (Nat.le_refl _) (G1.out.tr G2.out) _ _ _
  | false =>
   have h := Lh fun w' g => HR.out w' ⟨0, 0, 0⟩ 8 (by simp) g
   clear HR; go_enter Tryz.func101, Tryz.ntmps101
   go_wp2_with fail
   go_at_call 143; refine GC.out _ _ ?_; intro w1 hg1; have G1 := Lh (grow_al hg1); have K1 := Lh (blk_al _ _ _ hg1); clear hg1; go_wp2_with fail
   refine wp_region_lexT (Grow w1) ((Grow.refl w1).dr) 9 [0, 1, 2, 3, 4, 5, 6, 7, 8] (by kernel_rfl) (by kernel_rfl) (by intro c a d v w h; cases d <;> exact h) ?_
   iterate 8 (apply lext_take; exact rfl; exact rfl; (intro W hW; (try clear hW); go_simp; with_reducible rfl); try simp only [Act.put, sA, sZ, sS])
   apply lext_turn; exact rfl; exact rfl; exact rfl; intro K hK; go_simp; refine hK.out _ _ ((Grow.refl w1).dr.al _) ?_; clear hK; try simp only [Act.put, sA, sZ, sS]
   refine lext_nil ?_; simp only [List.drop_succ_cons, List.drop_zero]; go_wp2_with fail
   go_at_call 94; refine FR.out _ _ ?_; intro w2 hg2; have G2 := Lh (((Grow.refl w1).al (.cells #[.int .i64 q, .int .u64 (x : Nat), .int .u64 (y : Nat)] 27)).dr.tr hg2); have K2 := K1.out; have hb3 := grow_blk (((Grow.refl w1).al (.cells #[.int .i64 q, .int .u64 (x : Nat), .int .u64 (y : Nat)] 27)).dr.tr hg2) K1.out; have BX := box_at (grow_drew hg2); clear hg2 K2; have c0 := cell_of_row _ w.heap.size 0 _ _ (0, 0) hb3; have f0 := frozen_of_row _ w.heap.size 0 _ _ hb3; have b1 := blk_set hb3 0 (.int .i64 0); have c1 := cell_of_row _ w.heap.size 1 _ _ (0, 0) b1
   have f1 := frozen_of_row _ w.heap.size 1 _ _ b1; have b2 := blk_set b1 1 (.int .u64 0); have c2 := cell_of_row _ w.heap.size 2 _ _ (0, 0) b2; have f2 := frozen_of_row _ w.heap.size 2 _ _ b2; have b3 := blk_set b2 2 (.int .u64 0); have r0 := cell_of_row _ w.heap.size 0 _ _ (0, 0) b3; have r1 := cell_of_row _ w.heap.size 1 _ _ (0, 0) b3; have r2 := cell_of_row _ w.heap.size 2 _ _ (0, 0) b3; simp only [sA, sZ, sS] at c0 c1 c2 r0 r1 r2; clear b1 b2 b3; clear hb3; go_wp2
   refine bodyPost_ret (v := .tuple #[.agg #[.int .i64 0, (.int .u64 0), (.int .u64 0)], .int .i64 8]) (by simp [results, Tryz.f101, go_sem, r0, r1, r2]) rfl (h.out _ ?_); exact grow_set3 (Nat.le_refl _) (G1.out.tr G2.out) _ _ _
def Fr.same (f g : Fr) : Bool := decide (f.q = g.q) && decide (f.r = g.r) && decide (f.d = g.d)
theorem Fr.split (f g : Fr) : (f = g /\ f.same g = true) ∨ (((f.q == g.q) = false ∨ f.q = g.q /\ (((f.r : Int) == g.r) = false ∨ f.r = g.r /\ ((f.d : Int) == g.d) = false)) /\ f.same g = false) := by
 obtain ⟨a, b, c⟩ := f; obtain ⟨x, y, z⟩ := g; simp only [Fr.same, Fr.mk.injEq, Bool.and_eq_true, Bool.and_eq_false_iff, decide_eq_true_eq, decide_eq_false_iff_not, beq_eq_false_iff_ne]; omega
set_option maxHeartbeats 1000000 in
theorem of23_any (q : Int) (w : World) {R : Ending -> World -> Prop} (hR : ∀ w', Grow w w' -> R (.returned (.agg #[.int .i64 q, .int .u64 0, .int .u64 1])) w') :
  Calls Tryz.prog 25 #[.int .i64 q] w R := by
 have HR := Lh hR; clear hR; go_enter Tryz.func25, Tryz.ntmps25
 go_wp2; exact bodyPost_ret (v := .agg #[.int .i64 q, .int .u64 0, .int .u64 1]) (by simp [results, Tryz.f25, go_sem]) rfl (HR.out _ ((Grow.refl w).al _))
end Go.Proofs.YteeeeddeacepmaaGreatDoor
namespace Go.Proofs.YteeeeddeacepmaaGreatDoor
set_option maxRecDepth 100000
open Go.RowKit Go.Lib B
def RatR (w : World) (S : Nat -> Prop) (v : Value) (n d : Int) (k j : Nat) : Prop :=
 ∃ p A x c p' A' x' c', v = .agg #[.bool p, .slice A x c, .bool p', .slice A' x' c'] /\ BigR w S (.agg #[.bool p, .slice A x c]) n k /\ BigR w S (.agg #[.bool p', .slice A' x' c']) d j
theorem RatR.gr {w w' : World} {S : Nat -> Prop} {v : Value} {n d : Int} {k j : Nat} (h : RatR w S v n d k j) (hg : Grow w w') : RatR w' S v n d k j := by
 obtain ⟨p, A, x, c, p', A', x', c', h1, h2, h3⟩ := h; exact ⟨p, A, x, c, p', A', x', c', h1, h2.gr hg, h3.gr hg⟩
theorem RatR.into {w : World} {S T : Nat -> Prop} {v : Value} {n d : Int} {k j : Nat} (h : RatR w S v n d k j) (hk : ∀ b, S b -> T b) : RatR w T v n d k j := by
 obtain ⟨p, A, x, c, p', A', x', c', h1, h2, h3⟩ := h; exact ⟨p, A, x, c, p', A', x', c', h1, h2.into hk, h3.into hk⟩
theorem RatR.both {w : World} {S : Nat -> Prop} {v : Value} {n d : Int} {k j : Nat} (h : RatR w S v n d k j) : RatR w (fun b => S b /\ b < w.heap.size) v n d k j := by
 obtain ⟨p, A, x, c, p', A', x', c', h1, h2, h3⟩ := h; exact ⟨p, A, x, c, p', A', x', c', h1, h2.both, h3.both⟩
def st4 (W : World) (b : Nat) (u0 u1 u2 u3 : Value) : World := (((W.setCell ⟨b, 0, none⟩ u0).setCell ⟨b, 1, none⟩ u1).setCell ⟨b, 2, none⟩ u2).setCell ⟨b, 3, none⟩ u3
theorem BigR.st4 {W : World} {S : Nat -> Prop} {v : Value} {z : Int} {k b : Nat} (h : BigR W S v z k) (hb : ∀ b', S b' -> b' ≠ b) (u0 u1 u2 u3 : Value) : BigR (st4 W b u0 u1 u2 u3) S v z k := (((h.set hb u0).set hb u1).set hb u2).set hb u3
theorem Grow.st4 {w W : World} {b : Nat} (h : Grow w W) (hb : w.heap.size <= b) (u0 u1 u2 u3 : Value) : Grow w (st4 W b u0 u1 u2 u3) :=
 (((h.set (p := ⟨b, 0, none⟩) hb u0).set (p := ⟨b, 1, none⟩) hb u1).set (p := ⟨b, 2, none⟩) hb u2).set (p := ⟨b, 3, none⟩) hb u3
theorem st4_other {W : World} {b c : Nat} (hne : c ≠ b) (u0 u1 u2 u3 : Value) : (st4 W b u0 u1 u2 u3).heap[c]? = W.heap[c]? := by
 simp [st4, World.setCell, Array.getElem?_modify, hne.symm]
set_option maxHeartbeats 2000000 in
theorem whole_any (n : Int) (w : World) (hn : I64 n) {R : Ending -> World -> Prop}
  (hR : ∀ v w', Grow w w' -> RatR w' (fun b => w.heap.size <= b) v n 1 4 4 -> R (.returned v) w') :
  Calls Tryz.prog 12 #[.int .i64 n] w R := by
 have HR := Lh hR; clear hR
 obtain ⟨w0, hw0⟩ : ∃ w0, w0 = w.alloc (.cells #[.bool false, .slice none 0 0, .bool false, .slice none 0 0] 42) := ⟨_, rfl⟩
 have G0 : Hid (Grow w w0) := by subst hw0; exact (Grow.refl w).al _
 have F0 : Hid (∀ W, Grow w0 W -> W.heap[w.heap.size]? = some (.cells #[.bool false, .slice none 0 0, .bool false, .slice none 0 0] 42 (0, 0))) := fun W h => by subst hw0; exact blk_al _ _ _ h
 have S0 : Hid (w0.heap.size = w.heap.size + 1) := by subst hw0; exact World.size_alloc _ _
 go_enter Tryz.func12, Tryz.ntmps12
 go_wp2_with fail
 rw [<- hw0]; clear hw0; go_at_call 30; refine int_any n _ hn ?_; intro r1 w1 hg1 hr1; obtain ⟨p1, A1, n1, c1, rfl⟩ := hr1.parts; have G1 := Lh hg1; have R1 := Lh hr1; clear hg1 hr1; go_wp2_with fail
 go_at_call 27; refine word_any 1 _ (by omega) ?_; intro r2 w2 hg2 hr2; obtain ⟨p2, A2, n2, c2, rfl⟩ := hr2.parts; have G2 := Lh (G1.out.tr hg2); have R1 := Lh (R1.out.gr hg2); have R2 := Lh hr2; have SZ1 := Lh (show w.heap.size + 1 <= w1.heap.size by have := G1.out.size; have := S0.out; omega); clear hg2 hr2; have hb := F0.out _ G2.out; have xc0 := cell_of_row _ (w.heap.size) 0 _ _ (0, 0) hb; have xf0 := frozen_of_row _ (w.heap.size) 0 _ _ hb; have xb1 := blk_set hb 0 (.bool p1); have xc1 := cell_of_row _ (w.heap.size) 1 _ _ (0, 0) xb1
 have xf1 := frozen_of_row _ (w.heap.size) 1 _ _ xb1; have xb2 := blk_set xb1 1 (.slice A1 n1 c1); have xc2 := cell_of_row _ (w.heap.size) 2 _ _ (0, 0) xb2; have xf2 := frozen_of_row _ (w.heap.size) 2 _ _ xb2; have xb3 := blk_set xb2 2 (.bool p2); have xc3 := cell_of_row _ (w.heap.size) 3 _ _ (0, 0) xb3; have xf3 := frozen_of_row _ (w.heap.size) 3 _ _ xb3; have xb4 := blk_set xb3 3 (.slice A2 n2 c2); have xr0 := cell_of_row _ (w.heap.size) 0 _ _ (0, 0) xb4; have xr1 := cell_of_row _ (w.heap.size) 1 _ _ (0, 0) xb4; have xr2 := cell_of_row _ (w.heap.size) 2 _ _ (0, 0) xb4
 have xr3 := cell_of_row _ (w.heap.size) 3 _ _ (0, 0) xb4; simp only [sA, sZ, sS] at xc0 xc1 xc2 xc3 xr0 xr1 xr2 xr3; clear xb1 xb2 xb3 xb4; go_wp2; refine bodyPost_ret (v := .agg #[.bool p1, .slice A1 n1 c1, .bool p2, .slice A2 n2 c2]) (by simp [results, Tryz.f12, go_sem, xr0, xr1, xr2, xr3]) rfl (HR.out _ _ ?_ ?_)
 ·exact (G0.out.tr G2.out).st4 (Nat.le_refl _) _ _ _ _
 ·have hs0 := S0.out
  have hs1 := SZ1.out; exact ⟨_, _, _, _, _, _, _, _, rfl, (R1.out.st4 (fun b hb => by omega) _ _ _ _).into fun b hb => by omega, (R2.out.st4 (fun b hb => by omega) _ _ _ _).into fun b hb => by omega⟩
set_option maxHeartbeats 2000000 in
theorem rat23_any (f : Fr) (w : World) (hf : f.ok) {R : Ending -> World -> Prop}
  (hR : ∀ v w', Grow w w' -> RatR w' (fun b => w.heap.size <= b) v (f.q * f.d + f.r) f.d 9 4 -> R (.returned v) w') :
  Calls Tryz.prog 11 #[.agg f.cells.toArray] w R := by
 have HR := Lh hR; clear hR; obtain ⟨q, r, d⟩ := f; obtain ⟨h1, h2, h3, h4⟩ := hf; unfold Fr.cells; dsimp only at *
 obtain ⟨w0, hw0⟩ : ∃ w0, w0 = (w.alloc (.cells #[.int .i64 q, .int .u64 (r : Nat), .int .u64 (d : Nat)] 27)).alloc (.cells #[.bool false, .slice none 0 0, .bool false, .slice none 0 0] 42) := ⟨_, rfl⟩
 have G0 : Hid (Grow w w0) := by subst hw0; exact ((Grow.refl w).al _).al _
 have FF : Hid (∀ W, Grow w0 W -> W.heap[w.heap.size]? = some (.cells #[.int .i64 q, .int .u64 (r : Nat), .int .u64 (d : Nat)] 27 (0, 0))) := fun W h => by
  subst hw0; exact blk_al w _ _ (((Grow.refl _).al _).tr h)
 have F0 : Hid (∀ W, Grow w0 W -> W.heap[w.heap.size + 1]? = some (.cells #[.bool false, .slice none 0 0, .bool false, .slice none 0 0] 42 (0, 0))) := fun W h => by
  subst hw0; have := blk_al _ _ _ h
  rwa [World.size_alloc] at this
 have S0 : Hid (w0.heap.size = w.heap.size + 2) := by subst hw0; show _ = _; rw [World.size_alloc, World.size_alloc]
 go_enter Tryz.func11, Tryz.ntmps11
 go_wp2_with fail
 rw [<- hw0]; clear hw0; go_at_call 27; refine word_any d _ h4 ?_; intro r1 w1 hg1 hr1; obtain ⟨p1, A1, n1, c1, rfl⟩ := hr1.parts; have G1 := Lh hg1; have R1 := Lh hr1; clear hg1 hr1; go_wp2_with fail
 have GA := Lh ((Grow.refl w1).al (.cells #[.bool p1, .slice A1 n1 c1] 40)); have FD := Lh fun W h => blk_al w1 #[.bool p1, .slice A1 n1 c1] 40 (w' := W) h
 generalize w1.alloc (.cells #[.bool p1, .slice A1 n1 c1] 40) = wa at *; have GB := Lh (G1.out.tr GA.out); have R1 := Lh (R1.out.gr GA.out); refine wp_region_lexT (Grow wa) ((Grow.refl wa).dr) 10 [0, 1, 3, 5, 6, 9, 2, 4, 7, 8] (by kernel_rfl) (by kernel_rfl) (by intro c a d v w h; cases d <;> exact h) ?_
 iterate 6 (apply lext_take; exact rfl; exact rfl; (intro W hW; have z0 := cell_of_row _ w.heap.size 0 _ _ (0, 0) (FF.out _ (GB.out.tr hW)); have z1 := cell_of_row _ w.heap.size 1 _ _ (0, 0) (FF.out _ (GB.out.tr hW)); have z2 := cell_of_row _ w.heap.size 2 _ _ (0, 0) (FF.out _ (GB.out.tr hW)); have y0 := cell_of_row _ w1.heap.size 0 _ _ (0, 0) (FD.out _ hW); have y1 := cell_of_row _ w1.heap.size 1 _ _ (0, 0) (FD.out _ hW); (try clear hW); go_simp; with_reducible rfl); try simp only [Act.put, sA, sZ, sS])
 apply lext_turn; exact rfl; exact rfl; exact rfl; intro K hK; go_simp; go_at_call 30; refine int_any q _ ⟨h1, h2⟩ ?_; intro r2 w2 hg2 hr2; have G2 := Lh ((Grow.refl wa).dr.tr hg2); have R2 := Lh hr2; refine hK.out _ _ G2.out ?_; clear hK hg2 hr2
 try simp only [Act.put, sA, sZ, sS]
 apply lext_turn; exact rfl; exact rfl; exact rfl; intro K hK; go_simp; go_at_call 29; refine mul_any _ _ 4 4 _ _ _ _ w2 R2.out (R1.out.gr G2.out) (by omega) (by omega) ?_; intro r3 w3 hg3 hr3; have G3 := Lh (G2.out.tr hg3); have R3 := Lh hr3; refine hK.out _ _ G3.out ?_; clear hK hg3 hr3
 try simp only [Act.put, sA, sZ, sS]
 apply lext_turn; exact rfl; exact rfl; exact rfl; intro K hK; go_simp; go_at_call 27; refine word_any r _ h3 ?_; intro r4 w4 hg4 hr4; have G4 := Lh (G3.out.tr hg4); have R3 := Lh (R3.out.gr hg4); have R4 := Lh hr4; refine hK.out _ _ G4.out ?_; clear hK hg4 hr4
 try simp only [Act.put, sA, sZ, sS]
 apply lext_turn; exact rfl; exact rfl; exact rfl; intro K hK; go_simp; go_at_call 28; refine add_any _ _ 8 4 _ _ _ _ w4 R3.out R4.out (by omega) (by omega) ?_; intro r5 w5 hg5 hr5; obtain ⟨p5, A5, n5, c5, rfl⟩ := hr5.parts; have G5 := Lh (G4.out.tr hg5); have R5 := Lh hr5; have SZ4 := Lh (show w.heap.size + 2 <= w4.heap.size by have := (GB.out.tr G4.out).size; have := S0.out; omega); refine hK.out _ _ G5.out ?_; clear hK hg5 hr5
 try simp only [Act.put, sA, sZ, sS]
 refine lext_nil ?_; simp only [List.drop_succ_cons, List.drop_zero]; have R1 := Lh (R1.out.gr G5.out); have hb := F0.out _ (GB.out.tr G5.out); have xc0 := cell_of_row _ (w.heap.size + 1) 0 _ _ (0, 0) hb; have xf0 := frozen_of_row _ (w.heap.size + 1) 0 _ _ hb; have xb1 := blk_set hb 0 (.bool p5); have xc1 := cell_of_row _ (w.heap.size + 1) 1 _ _ (0, 0) xb1; have xf1 := frozen_of_row _ (w.heap.size + 1) 1 _ _ xb1; have xb2 := blk_set xb1 1 (.slice A5 n5 c5); have xc2 := cell_of_row _ (w.heap.size + 1) 2 _ _ (0, 0) xb2; have xf2 := frozen_of_row _ (w.heap.size + 1) 2 _ _ xb2
 have xb3 := blk_set xb2 2 (.bool p1); have xc3 := cell_of_row _ (w.heap.size + 1) 3 _ _ (0, 0) xb3; have xf3 := frozen_of_row _ (w.heap.size + 1) 3 _ _ xb3; have xb4 := blk_set xb3 3 (.slice A1 n1 c1); have xr0 := cell_of_row _ (w.heap.size + 1) 0 _ _ (0, 0) xb4; have xr1 := cell_of_row _ (w.heap.size + 1) 1 _ _ (0, 0) xb4; have xr2 := cell_of_row _ (w.heap.size + 1) 2 _ _ (0, 0) xb4; have xr3 := cell_of_row _ (w.heap.size + 1) 3 _ _ (0, 0) xb4; simp only [sA, sZ, sS] at xc0 xc1 xc2 xc3 xr0 xr1 xr2 xr3; clear xb1 xb2 xb3 xb4; go_wp2
 refine bodyPost_ret (v := .agg #[.bool p5, .slice A5 n5 c5, .bool p1, .slice A1 n1 c1]) (by simp [results, Tryz.f11, go_sem, xr0, xr1, xr2, xr3]) rfl (HR.out _ _ ?_ ?_)
 ·exact ((G0.out.tr GB.out).tr G5.out).st4 (by omega) _ _ _ _
 ·have hs0 := S0.out
  have hs1 := SZ4.out; exact ⟨_, _, _, _, _, _, _, _, rfl, (R5.out.st4 (fun b hb => by omega) _ _ _ _).into fun b hb => by omega, (R1.out.st4 (fun b hb => by omega) _ _ _ _).into fun b hb => by omega⟩
end Go.Proofs.YteeeeddeacepmaaGreatDoor
namespace Go.Proofs.YteeeeddeacepmaaGreatDoor
set_option maxRecDepth 100000
open Go.RowKit Go.Lib B
set_option maxHeartbeats 2000000 in
theorem order_any (n1 e1 n2 e2 : Int) (k1 j1 k2 j2 : Nat) (a b : Value) (S T : Nat -> Prop) (w : World) (ha : RatR w S a n1 e1 k1 j1) (hb : RatR w T b n2 e2 k2 j2) (hk1 : k1 <= 10000) (hk2 : k2 <= 10000) (hj1 : j1 <= 10000) (hj2 : j2 <= 10000) {R : Ending -> World -> Prop}
  (hR : ∀ w', Grow w w' -> R (.returned (.int .i64 (n1 * e2 - n2 * e1).sign)) w') :
  Calls Tryz.prog 13 #[a, b] w R := by
 have HR := Lh hR; clear hR; obtain ⟨p, A, x, c, p', A', x', c', rfl, ha1, ha2⟩ := ha; obtain ⟨q, B, y, d, q', B', y', d', rfl, hb1, hb2⟩ := hb; have HA1 := Lh ha1; have HA2 := Lh ha2; have HB1 := Lh hb1; have HB2 := Lh hb2; clear ha1 ha2 hb1 hb2
 obtain ⟨wa, hwa⟩ : ∃ wa, wa = (w.alloc (.cells #[.bool p, .slice A x c, .bool p', .slice A' x' c'] 42)).alloc (.cells #[.bool q, .slice B y d, .bool q', .slice B' y' d'] 42) := ⟨_, rfl⟩
 have K0 : Hid (∀ W, Grow wa W -> W.heap[w.heap.size]? = some (.cells #[.bool p, .slice A x c, .bool p', .slice A' x' c'] 42 (0, 0))) := fun W h => by
  subst hwa; exact blk_al w _ _ (((Grow.refl _).al _).tr h)
 have K1 : Hid (∀ W, Grow wa W -> W.heap[w.heap.size + 1]? = some (.cells #[.bool q, .slice B y d, .bool q', .slice B' y' d'] 42 (0, 0))) := fun W h => by
  subst hwa; have := blk_al _ _ _ h
  rwa [World.size_alloc] at this
 have GA : Hid (Grow w wa) := by subst hwa; exact ((Grow.refl w).al _).al _
 go_enter Tryz.func13, Tryz.ntmps13
 go_wp2_with fail
 rw [<- hwa]; clear hwa; refine wp_region_lexT (Grow wa) ((Grow.refl wa).dr) 9 [0, 1, 2, 3, 5, 6, 7, 8, 4] (by kernel_rfl) (by kernel_rfl) (by intro c a d v w h; cases d <;> exact h) ?_
 iterate 8 (apply lext_take; exact rfl; exact rfl; (intro W hW; have z0 := cell_of_row _ w.heap.size 0 _ _ (0, 0) (K0.out _ hW); have z1 := cell_of_row _ w.heap.size 1 _ _ (0, 0) (K0.out _ hW); have z2 := cell_of_row _ w.heap.size 2 _ _ (0, 0) (K0.out _ hW); have z3 := cell_of_row _ w.heap.size 3 _ _ (0, 0) (K0.out _ hW); have y0 := cell_of_row _ (w.heap.size + 1) 0 _ _ (0, 0) (K1.out _ hW); have y1 := cell_of_row _ (w.heap.size + 1) 1 _ _ (0, 0) (K1.out _ hW); have y2 := cell_of_row _ (w.heap.size + 1) 2 _ _ (0, 0) (K1.out _ hW); have y3 := cell_of_row _ (w.heap.size + 1) 3 _ _ (0, 0) (K1.out _ hW); (try clear hW); go_simp; with_reducible rfl); try simp only [Act.put, sA, sZ, sS])
 apply lext_turn; exact rfl; exact rfl; exact rfl; intro K hK; go_simp; go_at_call 29; refine mul_any n1 e2 k1 j2 _ _ _ _ _ (HA1.out.gr (GA.out.tr (Grow.refl wa).dr)) (HB2.out.gr (GA.out.tr (Grow.refl wa).dr)) (by omega) (by omega) ?_; intro r2 w2 hg2 hr2; have G2 := Lh ((Grow.refl wa).dr.tr hg2); have R2 := Lh hr2; refine hK.out _ _ G2.out ?_; clear hK hg2 hr2
 try simp only [Act.put, sA, sZ, sS]
 refine lext_nil ?_; simp only [List.drop_succ_cons, List.drop_zero]; go_wp2_with fail
 go_at_call 29; refine mul_any n2 e1 k2 j1 _ _ _ _ w2 (HB1.out.gr (GA.out.tr G2.out)) (HA2.out.gr (GA.out.tr G2.out)) (by omega) (by omega) ?_; intro r3 w3 hg3 hr3; have G3 := Lh (G2.out.tr hg3); have R2 := Lh (R2.out.gr hg3); have R3 := Lh hr3; clear hg3 hr3; go_wp2_with fail
 go_at_call 31; refine cmp_any _ _ (k1 + j2) (k2 + j1) _ _ _ _ w3 R2.out R3.out (by omega) (by omega) ?_; intro w4 hg4; have G4 := Lh (GA.out.tr (G3.out.tr hg4)); clear hg4; go_wp2; exact HR.out _ G4.out
set_option maxHeartbeats 3000000 in
theorem plus22_any (n1 e1 n2 e2 : Int) (k1 j1 k2 j2 : Nat) (a b : Value) (S T : Nat -> Prop) (w : World) (ha : RatR w S a n1 e1 k1 j1) (hb : RatR w T b n2 e2 k2 j2) (hk1 : k1 <= 10000) (hk2 : k2 <= 10000) (hj1 : j1 <= 10000) (hj2 : j2 <= 10000) {R : Ending -> World -> Prop}
  (hR : ∀ v w', Grow w w' -> RatR w' (fun b => w.heap.size <= b) v (n1 * e2 + n2 * e1) (e1 * e2) (max (k1 + j2) (k2 + j1) + 1) (j1 + j2) -> R (.returned v) w') :
  Calls Tryz.prog 16 #[a, b] w R := by
 have HR := Lh hR; clear hR; obtain ⟨p, A, x, c, p', A', x', c', rfl, ha1, ha2⟩ := ha; obtain ⟨q, B, y, d, q', B', y', d', rfl, hb1, hb2⟩ := hb; have HA1 := Lh ha1; have HA2 := Lh ha2; have HB1 := Lh hb1; have HB2 := Lh hb2; clear ha1 ha2 hb1 hb2
 obtain ⟨wa, hwa⟩ : ∃ wa, wa = ((w.alloc (.cells #[.bool p, .slice A x c, .bool p', .slice A' x' c'] 42)).alloc (.cells #[.bool q, .slice B y d, .bool q', .slice B' y' d'] 42)).alloc (.cells #[.bool false, .slice none 0 0, .bool false, .slice none 0 0] 42) := ⟨_, rfl⟩
 have K0 : Hid (∀ W, Grow wa W -> W.heap[w.heap.size]? = some (.cells #[.bool p, .slice A x c, .bool p', .slice A' x' c'] 42 (0, 0))) := fun W h => by
  subst hwa; exact blk_al w _ _ ((((Grow.refl _).al _).al _).tr h)
 have K1 : Hid (∀ W, Grow wa W -> W.heap[w.heap.size + 1]? = some (.cells #[.bool q, .slice B y d, .bool q', .slice B' y' d'] 42 (0, 0))) := fun W h => by
  subst hwa; have := blk_al (w.alloc (.cells #[.bool p, .slice A x c, .bool p', .slice A' x' c'] 42)) _ _ (((Grow.refl _).al _).tr h)
  rwa [World.size_alloc] at this
 have K2 : Hid (∀ W, Grow wa W -> W.heap[w.heap.size + 1 + 1]? = some (.cells #[.bool false, .slice none 0 0, .bool false, .slice none 0 0] 42 (0, 0))) := fun W h => by
  subst hwa; have := blk_al _ _ _ h
  rwa [World.size_alloc, World.size_alloc] at this
 have GA : Hid (Grow w wa) := by subst hwa; exact (((Grow.refl w).al _).al _).al _
 have GS : Hid (wa.heap.size = w.heap.size + 3) := by
  subst hwa; show _ = _; rw [World.size_alloc, World.size_alloc, World.size_alloc]
 go_enter Tryz.func16, Tryz.ntmps16
 go_wp2_with fail
 rw [<- hwa]; clear hwa; refine wp_region_lexT (Grow wa) ((Grow.refl wa).dr) 15 [0, 1, 2, 3, 5, 6, 7, 8, 11, 12, 13, 14, 4, 9, 10] (by kernel_rfl) (by kernel_rfl) (by intro c a d v w h; cases d <;> exact h) ?_
 iterate 12 (apply lext_take; exact rfl; exact rfl; (intro W hW; have z0 := cell_of_row _ w.heap.size 0 _ _ (0, 0) (K0.out _ hW); have z1 := cell_of_row _ w.heap.size 1 _ _ (0, 0) (K0.out _ hW); have z2 := cell_of_row _ w.heap.size 2 _ _ (0, 0) (K0.out _ hW); have z3 := cell_of_row _ w.heap.size 3 _ _ (0, 0) (K0.out _ hW); have y0 := cell_of_row _ (w.heap.size + 1) 0 _ _ (0, 0) (K1.out _ hW); have y1 := cell_of_row _ (w.heap.size + 1) 1 _ _ (0, 0) (K1.out _ hW); have y2 := cell_of_row _ (w.heap.size + 1) 2 _ _ (0, 0) (K1.out _ hW); have y3 := cell_of_row _ (w.heap.size + 1) 3 _ _ (0, 0) (K1.out _ hW); (try clear hW); go_simp; with_reducible rfl); try simp only [Act.put, sA, sZ, sS])
 apply lext_turn; exact rfl; exact rfl; exact rfl; intro K hK; go_simp; go_at_call 29; refine mul_any n1 e2 k1 j2 _ _ _ _ _ (HA1.out.gr (GA.out.tr (Grow.refl wa).dr)) (HB2.out.gr (GA.out.tr (Grow.refl wa).dr)) (by omega) (by omega) ?_; intro r2 w2 hg2 hr2; have G2 := Lh ((Grow.refl wa).dr.tr hg2); have R2 := Lh hr2; refine hK.out _ _ G2.out ?_; clear hK hg2 hr2
 try simp only [Act.put, sA, sZ, sS]
 apply lext_turn; exact rfl; exact rfl; exact rfl; intro K hK; go_simp; go_at_call 29; refine mul_any n2 e1 k2 j1 _ _ _ _ w2 (HB1.out.gr (GA.out.tr G2.out)) (HA2.out.gr (GA.out.tr G2.out)) (by omega) (by omega) ?_; intro r3 w3 hg3 hr3; have G3 := Lh (G2.out.tr hg3); have R2 := Lh (R2.out.gr hg3); have R3 := Lh hr3; refine hK.out _ _ G3.out ?_; clear hK hg3 hr3
 try simp only [Act.put, sA, sZ, sS]
 apply lext_turn; exact rfl; exact rfl; exact rfl; intro K hK; go_simp; go_at_call 28; refine add_any _ _ (k1 + j2) (k2 + j1) _ _ _ _ w3 R2.out R3.out (by omega) (by omega) ?_; intro r4 w4 hg4 hr4; obtain ⟨p4, A4, n4, c4, rfl⟩ := hr4.parts; have G4 := Lh (G3.out.tr hg4); have R4 := Lh hr4; refine hK.out _ _ G4.out ?_; clear hK hg4 hr4
 try simp only [Act.put, sA, sZ, sS]
 refine lext_nil ?_; simp only [List.drop_succ_cons, List.drop_zero]; go_wp2_with fail
 go_at_call 29; refine mul_any e1 e2 j1 j2 _ _ _ _ w4 (HA2.out.gr (GA.out.tr G4.out)) (HB2.out.gr (GA.out.tr G4.out)) (by omega) (by omega) ?_; intro r5 w5 hg5 hr5; obtain ⟨p5, A5, n5, c5, rfl⟩ := hr5.parts; have G5 := Lh (G4.out.tr hg5); have R4 := Lh (R4.out.gr hg5); have R5 := Lh hr5; have SZ3 := Lh (show w.heap.size + 3 <= w3.heap.size by have := G3.out.size; have := GS.out; omega); have SZ4 := Lh (show w.heap.size + 3 <= w4.heap.size by have := G4.out.size; have := GS.out; omega); clear hg5 hr5; have hb := K2.out _ G5.out
 have xc0 := cell_of_row _ (w.heap.size + 1 + 1) 0 _ _ (0, 0) hb; have xf0 := frozen_of_row _ (w.heap.size + 1 + 1) 0 _ _ hb; have xb1 := blk_set hb 0 (.bool p4); have xc1 := cell_of_row _ (w.heap.size + 1 + 1) 1 _ _ (0, 0) xb1; have xf1 := frozen_of_row _ (w.heap.size + 1 + 1) 1 _ _ xb1; have xb2 := blk_set xb1 1 (.slice A4 n4 c4); have xc2 := cell_of_row _ (w.heap.size + 1 + 1) 2 _ _ (0, 0) xb2; have xf2 := frozen_of_row _ (w.heap.size + 1 + 1) 2 _ _ xb2; have xb3 := blk_set xb2 2 (.bool p5); have xc3 := cell_of_row _ (w.heap.size + 1 + 1) 3 _ _ (0, 0) xb3
 have xf3 := frozen_of_row _ (w.heap.size + 1 + 1) 3 _ _ xb3; have xb4 := blk_set xb3 3 (.slice A5 n5 c5); have xr0 := cell_of_row _ (w.heap.size + 1 + 1) 0 _ _ (0, 0) xb4; have xr1 := cell_of_row _ (w.heap.size + 1 + 1) 1 _ _ (0, 0) xb4; have xr2 := cell_of_row _ (w.heap.size + 1 + 1) 2 _ _ (0, 0) xb4; have xr3 := cell_of_row _ (w.heap.size + 1 + 1) 3 _ _ (0, 0) xb4; simp only [sA, sZ, sS] at xc0 xc1 xc2 xc3 xr0 xr1 xr2 xr3; clear xb1 xb2 xb3 xb4; go_wp2
 refine bodyPost_ret (v := .agg #[.bool p4, .slice A4 n4 c4, .bool p5, .slice A5 n5 c5]) (by simp [results, Tryz.f16, go_sem, xr0, xr1, xr2, xr3]) rfl (HR.out _ _ ?_ ?_)
 ·exact (GA.out.tr G5.out).st4 (by omega) _ _ _ _
 ·have hs0 := SZ3.out
  have hs1 := SZ4.out; exact ⟨_, _, _, _, _, _, _, _, rfl, (R4.out.st4 (fun b hb => by omega) _ _ _ _).into fun b hb => by omega, (R5.out.st4 (fun b hb => by omega) _ _ _ _).into fun b hb => by omega⟩
set_option maxHeartbeats 3000000 in
theorem minus22_any (n1 e1 n2 e2 : Int) (k1 j1 k2 j2 : Nat) (a b : Value) (S T : Nat -> Prop) (w : World) (ha : RatR w S a n1 e1 k1 j1) (hb : RatR w T b n2 e2 k2 j2) (hk1 : k1 <= 10000) (hk2 : k2 <= 10000) (hj1 : j1 <= 10000) (hj2 : j2 <= 10000) {R : Ending -> World -> Prop}
  (hR : ∀ v w', Grow w w' -> RatR w' (fun b => w.heap.size <= b) v (n1 * e2 + -n2 * e1) (e1 * e2) (max (k1 + j2) (k2 + j1) + 1) (j1 + j2) -> R (.returned v) w') :
  Calls Tryz.prog 48 #[a, b] w R := by
 have HR := Lh hR; clear hR; obtain ⟨p, A, x, c, p', A', x', c', rfl, ha1, ha2⟩ := ha; obtain ⟨q, B, y, d, q', B', y', d', rfl, hb1, hb2⟩ := hb; have HA1 := Lh ha1; have HA2 := Lh ha2; have HB1 := Lh hb1; have HB2 := Lh hb2; clear ha1 ha2 hb1 hb2
 obtain ⟨wa, hwa⟩ : ∃ wa, wa = ((w.alloc (.cells #[.bool p, .slice A x c, .bool p', .slice A' x' c'] 42)).alloc (.cells #[.bool q, .slice B y d, .bool q', .slice B' y' d'] 42)).alloc (.cells #[.bool false, .slice none 0 0, .bool false, .slice none 0 0] 42) := ⟨_, rfl⟩
 have K0 : Hid (∀ W, Grow wa W -> W.heap[w.heap.size]? = some (.cells #[.bool p, .slice A x c, .bool p', .slice A' x' c'] 42 (0, 0))) := fun W h => by
  subst hwa; exact blk_al w _ _ ((((Grow.refl _).al _).al _).tr h)
 have K1 : Hid (∀ W, Grow wa W -> W.heap[w.heap.size + 1]? = some (.cells #[.bool q, .slice B y d, .bool q', .slice B' y' d'] 42 (0, 0))) := fun W h => by
  subst hwa; have := blk_al (w.alloc (.cells #[.bool p, .slice A x c, .bool p', .slice A' x' c'] 42)) _ _ (((Grow.refl _).al _).tr h)
  rwa [World.size_alloc] at this
 have K2 : Hid (∀ W, Grow wa W -> W.heap[w.heap.size + 1 + 1]? = some (.cells #[.bool false, .slice none 0 0, .bool false, .slice none 0 0] 42 (0, 0))) := fun W h => by
  subst hwa; have := blk_al _ _ _ h
  rwa [World.size_alloc, World.size_alloc] at this
 have GA : Hid (Grow w wa) := by subst hwa; exact (((Grow.refl w).al _).al _).al _
 have GS : Hid (wa.heap.size = w.heap.size + 3) := by
  subst hwa; show _ = _; rw [World.size_alloc, World.size_alloc, World.size_alloc]
 go_enter Tryz.func48, Tryz.ntmps48
 go_wp2_with fail
 rw [<- hwa]; clear hwa; refine wp_region_lexT (Grow wa) ((Grow.refl wa).dr) 7 [0, 1, 2, 4, 5, 3, 6] (by kernel_rfl) (by kernel_rfl) (by intro c a d v w h; cases d <;> exact h) ?_
 iterate 5 (apply lext_take; exact rfl; exact rfl; (intro W hW; have z0 := cell_of_row _ w.heap.size 0 _ _ (0, 0) (K0.out _ hW); have z1 := cell_of_row _ w.heap.size 1 _ _ (0, 0) (K0.out _ hW); have z2 := cell_of_row _ w.heap.size 2 _ _ (0, 0) (K0.out _ hW); have z3 := cell_of_row _ w.heap.size 3 _ _ (0, 0) (K0.out _ hW); have y0 := cell_of_row _ (w.heap.size + 1) 0 _ _ (0, 0) (K1.out _ hW); have y1 := cell_of_row _ (w.heap.size + 1) 1 _ _ (0, 0) (K1.out _ hW); have y2 := cell_of_row _ (w.heap.size + 1) 2 _ _ (0, 0) (K1.out _ hW); have y3 := cell_of_row _ (w.heap.size + 1) 3 _ _ (0, 0) (K1.out _ hW); (try clear hW); go_simp; with_reducible rfl); try simp only [Act.put, sA, sZ, sS])
 apply lext_turn; exact rfl; exact rfl; exact rfl; intro K hK; go_simp; go_at_call 35; refine neg_any n2 k2 _ _ _ (HB1.out.gr (GA.out.tr (Grow.refl wa).dr)) (by omega) ?_; intro r2 w2 hg2 hr2; obtain ⟨p2, A2, m2, c2, rfl⟩ := hr2.parts; have G2 := Lh ((Grow.refl wa).dr.tr hg2); have R2 := Lh hr2; refine hK.out _ _ G2.out ?_; clear hK hg2 hr2
 try simp only [Act.put, sA, sZ, sS]
 iterate 1 (apply lext_take; exact rfl; exact rfl; (intro W hW; (try clear hW); go_simp; with_reducible rfl); try simp only [Act.put, sA, sZ, sS])
 refine lext_nil ?_; simp only [List.drop_succ_cons, List.drop_zero]; go_wp2_with fail
 go_at_call 16; refine plus22_any n1 e1 (-n2) e2 k1 j1 k2 j2 _ _ (fun _ => True) (fun _ => True) w2 ⟨_, _, _, _, _, _, _, _, rfl, (HA1.out.gr (GA.out.tr G2.out)).into fun _ _ => trivial, (HA2.out.gr (GA.out.tr G2.out)).into fun _ _ => trivial⟩ ⟨_, _, _, _, _, _, _, _, rfl, R2.out.into fun _ _ => trivial, (HB2.out.gr (GA.out.tr G2.out)).into fun _ _ => trivial⟩ hk1 hk2 hj1 hj2 ?_; intro r5 w5 hg5 hr5; obtain ⟨p4, A4, n4, c4, p5, A5, n5, c5, rfl, hR4, hR5⟩ := hr5; have G5 := Lh (G2.out.tr hg5); have R4 := Lh hR4; have R5 := Lh hR5
 have SZ2 := Lh (show w.heap.size + 3 <= w2.heap.size by have := G2.out.size; have := GS.out; omega); clear hg5 hR4 hR5; have hb := K2.out _ G5.out; have xc0 := cell_of_row _ (w.heap.size + 1 + 1) 0 _ _ (0, 0) hb; have xf0 := frozen_of_row _ (w.heap.size + 1 + 1) 0 _ _ hb; have xb1 := blk_set hb 0 (.bool p4); have xc1 := cell_of_row _ (w.heap.size + 1 + 1) 1 _ _ (0, 0) xb1; have xf1 := frozen_of_row _ (w.heap.size + 1 + 1) 1 _ _ xb1; have xb2 := blk_set xb1 1 (.slice A4 n4 c4); have xc2 := cell_of_row _ (w.heap.size + 1 + 1) 2 _ _ (0, 0) xb2
 have xf2 := frozen_of_row _ (w.heap.size + 1 + 1) 2 _ _ xb2; have xb3 := blk_set xb2 2 (.bool p5); have xc3 := cell_of_row _ (w.heap.size + 1 + 1) 3 _ _ (0, 0) xb3; have xf3 := frozen_of_row _ (w.heap.size + 1 + 1) 3 _ _ xb3; have xb4 := blk_set xb3 3 (.slice A5 n5 c5); have xr0 := cell_of_row _ (w.heap.size + 1 + 1) 0 _ _ (0, 0) xb4; have xr1 := cell_of_row _ (w.heap.size + 1 + 1) 1 _ _ (0, 0) xb4; have xr2 := cell_of_row _ (w.heap.size + 1 + 1) 2 _ _ (0, 0) xb4; have xr3 := cell_of_row _ (w.heap.size + 1 + 1) 3 _ _ (0, 0) xb4
 simp only [sA, sZ, sS] at xc0 xc1 xc2 xc3 xr0 xr1 xr2 xr3; clear xb1 xb2 xb3 xb4; go_wp2; refine bodyPost_ret (v := .agg #[.bool p4, .slice A4 n4 c4, .bool p5, .slice A5 n5 c5]) (by simp [results, Tryz.f48, go_sem, xr0, xr1, xr2, xr3]) rfl (HR.out _ _ ?_ ?_)
 ·exact (GA.out.tr G5.out).st4 (by omega) _ _ _ _
 ·have hs0 := SZ2.out
  exact ⟨_, _, _, _, _, _, _, _, rfl, (R4.out.st4 (fun b hb => by omega) _ _ _ _).into fun b hb => by omega, (R5.out.st4 (fun b hb => by omega) _ _ _ _).into fun b hb => by omega⟩
end Go.Proofs.YteeeeddeacepmaaGreatDoor
namespace Go.Proofs.YteeeeddeacepmaaGreatDoor
set_option maxRecDepth 100000
open Go.RowKit Go.Lib B
set_option maxHeartbeats 8000000 in
theorem over22_any (n1 e1 n2 e2 : Int) (k1 j1 k2 j2 : Nat) (a b : Value) (S T : Nat -> Prop) (w : World) (ha : RatR w S a n1 e1 k1 j1) (hb : RatR w T b n2 e2 k2 j2) (hk1 : k1 <= 10000) (hk2 : k2 <= 10000) (hj1 : j1 <= 10000) (hj2 : j2 <= 10000) {R : Ending -> World -> Prop}
  (hR : ∀ v w', Grow w w' -> RatR w' (fun b => w.heap.size <= b) v (if e1 * n2 < 0 then -(n1 * e2) else n1 * e2) (if e1 * n2 < 0 then -(e1 * n2) else e1 * n2) (k1 + j2) (j1 + k2) -> R (.returned v) w') :
  Calls Tryz.prog 15 #[a, b] w R := by
 have HR := Lh hR; clear hR; obtain ⟨p, A, x, c, p', A', x', c', rfl, ha1, ha2⟩ := ha; obtain ⟨q, B, y, d, q', B', y', d', rfl, hb1, hb2⟩ := hb; have HA1 := Lh ha1; have HA2 := Lh ha2; have HB1 := Lh hb1; have HB2 := Lh hb2; clear ha1 ha2 hb1 hb2
 obtain ⟨wa, hwa⟩ : ∃ wa, wa = ((w.alloc (.cells #[.bool p, .slice A x c, .bool p', .slice A' x' c'] 42)).alloc (.cells #[.bool q, .slice B y d, .bool q', .slice B' y' d'] 42)).alloc (.cells #[.bool false, .slice none 0 0, .bool false, .slice none 0 0] 42) := ⟨_, rfl⟩
 have K0 : Hid (∀ W, Grow wa W -> W.heap[w.heap.size]? = some (.cells #[.bool p, .slice A x c, .bool p', .slice A' x' c'] 42 (0, 0))) := fun W h => by
  subst hwa; exact blk_al w _ _ ((((Grow.refl _).al _).al _).tr h)
 have K1 : Hid (∀ W, Grow wa W -> W.heap[w.heap.size + 1]? = some (.cells #[.bool q, .slice B y d, .bool q', .slice B' y' d'] 42 (0, 0))) := fun W h => by
  subst hwa; have := blk_al (w.alloc (.cells #[.bool p, .slice A x c, .bool p', .slice A' x' c'] 42)) _ _ (((Grow.refl _).al _).tr h)
  rwa [World.size_alloc] at this
 have K2 : Hid (∀ W, Grow wa W -> W.heap[w.heap.size + 1 + 1]? = some (.cells #[.bool false, .slice none 0 0, .bool false, .slice none 0 0] 42 (0, 0))) := fun W h => by
  subst hwa; have := blk_al _ _ _ h
  rwa [World.size_alloc, World.size_alloc] at this
 have GA : Hid (Grow w wa) := by subst hwa; exact (((Grow.refl w).al _).al _).al _
 have GS : Hid (wa.heap.size = w.heap.size + 3) := by
  subst hwa; show _ = _; rw [World.size_alloc, World.size_alloc, World.size_alloc]
 go_enter Tryz.func15, Tryz.ntmps15
 go_wp2_with fail
 rw [<- hwa]; clear hwa; refine wp_region_free2 ⟨10, some 5, 40, #[.bool false, .slice none 0 0]⟩ ⟨11, some 6, 40, #[.bool false, .slice none 0 0]⟩ 12 [0, 1, 2, 3, 5, 6, 7, 8, 4, 9] (by kernel_rfl) (by kernel_rfl) (by decide) ?_ ?_ (by intro c a d v w h; cases d <;> exact h) rfl rfl ?_
 ·exact ⟨_, rfl, rfl, rfl, fun a W K h => by go_simp; exact h⟩
 ·exact ⟨_, rfl, rfl, rfl, fun a W K h => by go_simp; exact h⟩
 iterate 8
  apply fr_take; exact rfl; (simp); (simp); (intro x1 x2; exact rfl)
  ·intro x1 x2 W' hW
   have z0 := cell_of_row _ w.heap.size 0 _ _ (0, 0) (K0.out _ ((Grow.refl _).dr.tr hW)); have z1 := cell_of_row _ w.heap.size 1 _ _ (0, 0) (K0.out _ ((Grow.refl _).dr.tr hW)); have z2 := cell_of_row _ w.heap.size 2 _ _ (0, 0) (K0.out _ ((Grow.refl _).dr.tr hW)); have z3 := cell_of_row _ w.heap.size 3 _ _ (0, 0) (K0.out _ ((Grow.refl _).dr.tr hW)); have y0 := cell_of_row _ (w.heap.size + 1) 0 _ _ (0, 0) (K1.out _ ((Grow.refl _).dr.tr hW)); have y1 := cell_of_row _ (w.heap.size + 1) 1 _ _ (0, 0) (K1.out _ ((Grow.refl _).dr.tr hW))
   have y2 := cell_of_row _ (w.heap.size + 1) 2 _ _ (0, 0) (K1.out _ ((Grow.refl _).dr.tr hW)); have y3 := cell_of_row _ (w.heap.size + 1) 3 _ _ (0, 0) (K1.out _ ((Grow.refl _).dr.tr hW)); clear hW; simp only [FA.put2, Act.put, sA, sZ, sS]
   go_simp
   with_reducible rfl
  simp only [Act.put, sA, sZ, sS]
 apply fr_turn; exact rfl; exact rfl; (simp); (simp); (intro x1 x2; exact rfl); intro x1 x2 v1 hW K hK; simp only [FA.put2, Act.put, sA, sZ, sS]
 go_simp
 go_at_call 29; refine mul_any n1 e2 k1 j2 _ _ _ _ v1 (HA1.out.gr (GA.out.tr ((Grow.refl _).dr.tr hW))) (HB2.out.gr (GA.out.tr ((Grow.refl _).dr.tr hW))) (by omega) (by omega) ?_; intro r2 v2 hg2 hr2; obtain ⟨pn, An, nn, cn, rfl⟩ := hr2.parts; have H1 := Lh ((Grow.refl _).dr.tr (hW.tr hg2)); have RN := Lh hr2.both; have L1 := Lh (show wa.heap.size <= v1.heap.size from ((Grow.refl wa).dr.tr hW).size); refine hK.out _ _ hg2 ?_; clear hK hg2 hr2 hW; simp only [Act.put, sA, sZ, sS]
 apply fr_turn; exact rfl; exact rfl; (simp); (simp); (intro x1 x2; exact rfl); intro x1 x2 v3 hW K hK; simp only [FA.put2, Act.put, sA, sZ, sS]
 go_simp
 go_at_call 29; refine mul_any e1 n2 j1 k2 _ _ _ _ v3 (HA2.out.gr (GA.out.tr (H1.out.tr hW))) (HB1.out.gr (GA.out.tr (H1.out.tr hW))) (by omega) (by omega) ?_; intro r4 v4 hg4 hr4; obtain ⟨pd, Ad, nd, cd, rfl⟩ := hr4.parts; have H2 := Lh (H1.out.tr (hW.tr hg4)); have RN := Lh (RN.out.gr (hW.tr hg4)); have RD := Lh hr4.both; have L3 := Lh (show wa.heap.size <= v3.heap.size from (H1.out.tr hW).size); refine hK.out _ _ hg4 ?_; clear hK hg4 hr4 hW; simp only [Act.put, sA, sZ, sS]; refine fr_nil ?_
 intro b1 b2 V hV hne hb1 hb2; obtain ⟨hb11, hb12, hb13⟩ := hb1; obtain ⟨hb21, hb22, hb23⟩ := hb2; have i1 := hb13 (v1.heap.size, v2.heap.size) (by simp); have i2 := hb23 (v1.heap.size, v2.heap.size) (by simp); have i3 := hb13 (v3.heap.size, v4.heap.size) (by simp); have i4 := hb23 (v3.heap.size, v4.heap.size) (by simp); dsimp only at i1 i2 i3 i4; have gs := GS.out; have l1 := L1.out; have l3 := L3.out
 have NN : Hid (∀ b, v1.heap.size <= b /\ b < v2.heap.size -> b ≠ b1 /\ b ≠ b2) := fun b hb => ⟨by omega, by omega⟩
 have ND : Hid (∀ b, v3.heap.size <= b /\ b < v4.heap.size -> b ≠ b1 /\ b ≠ b2) := fun b hb => ⟨by omega, by omega⟩
 have SN : Hid (∀ b, v1.heap.size <= b /\ b < v2.heap.size -> w.heap.size <= b /\ b ≠ w.heap.size + 1 + 1) := fun b hb => ⟨by omega, by omega⟩
 have SD : Hid (∀ b, v3.heap.size <= b /\ b < v4.heap.size -> w.heap.size <= b /\ b ≠ w.heap.size + 1 + 1) := fun b hb => ⟨by omega, by omega⟩
 have HV := Lh (H2.out.tr hV); have RN := Lh (RN.out.gr hV); have RD := Lh (RD.out.gr hV); have F1 := hb11; have F2 := (st2_other (W := V) (c := b2) (b := b1) hne.symm (.bool pn) (.slice An nn cn)).trans hb21
 obtain ⟨V2, hV2⟩ : ∃ V2, V2 = st2 (st2 V b1 (.bool pn) (.slice An nn cn)) b2 (.bool pd) (.slice Ad nd cd) := ⟨_, rfl⟩
 have GV : Hid (Grow wa V2) := by
  subst hV2; exact (HV.out.st2 (by omega) _ _).st2 (by omega) _ _
 have Y1 : Hid (NumBox V2 b1 pn An nn cn (n1 * e2) (k1 + j2) (fun b => v1.heap.size <= b /\ b < v2.heap.size)) := by
  subst hV2; exact ⟨(st2_other hne _ _).trans (st2_same hb11 _ _), (RN.out.st2 (fun b hb => (NN.out b hb).1) _ _).st2 (fun b hb => (NN.out b hb).2) _ _⟩
 have Y2 : Hid (NumBox V2 b2 pd Ad nd cd (e1 * n2) (j1 + k2) (fun b => v3.heap.size <= b /\ b < v4.heap.size)) := by
  subst hV2; exact ⟨st2_same F2 _ _, (RD.out.st2 (fun b hb => (ND.out b hb).1) _ _).st2 (fun b hb => (ND.out b hb).2) _ _⟩
 have NE := Lh hne; have B1 := Lh (show wa.heap.size <= b1 by omega); have B2 := Lh (show wa.heap.size <= b2 by omega); simp only [st2] at F2 hV2; simp only [FA.put2, ptrTo, Act.put, sA, sZ, sS]; simp only [List.drop_succ_cons, List.drop_zero]; have c0 := cell_of_row _ b1 0 _ _ (0, 0) F1; have f0 := frozen_of_row _ b1 0 _ _ F1; have g1 := blk_set F1 0 (.bool pn); have c1 := cell_of_row _ b1 1 _ _ (0, 0) g1; have f1 := frozen_of_row _ b1 1 _ _ g1; have d0 := cell_of_row _ b2 0 _ _ (0, 0) F2
 have e0 := frozen_of_row _ b2 0 _ _ F2; have g2 := blk_set F2 0 (.bool pd); have d1 := cell_of_row _ b2 1 _ _ (0, 0) g2; have e1 := frozen_of_row _ b2 1 _ _ g2; simp only [sA, sZ] at c0 c1 d0 d1; clear g1 g2 F1 F2; have z0 := Y2.out.c0; have z1 := Y2.out.c1; clear hb11 hb12 hb13 hb21 hb22 hb23 i1 i2 i3 i4 hne hV l1 l3 gs; rw [hV2] at z0 z1; go_wp2_with fail
 rw [<- hV2]; clear c0 f0 c1 f1 d0 e0 d1 e1 z0 z1 hV2; go_at_call 34; refine sign_any (e1 * n2) (j1 + k2) _ _ V2 Y2.out.big (by omega) ?_; intro V3 hV3; have GV := Lh (GV.out.tr hV3); have Y1 := Lh (Y1.out.gr hV3); have Y2 := Lh (Y2.out.gr hV3); clear hV3
 obtain ⟨sg, hsg⟩ : ∃ sg, (e1 * n2).sign = sg := ⟨_, rfl⟩
 have hs : sg < 0 ↔ e1 * n2 < 0 := by
  rw [<- hsg, <- sgnC]; unfold cmpI'
  split <;> (try split) <;> omega
 rw [hsg]; clear hsg
 by_cases h0 : e1 * n2 < 0
 ·have t1 : decide (sg < 0) = true := decide_eq_true (hs.2 h0)
  rw [if_pos h0, if_pos h0] at HR; clear hs h0; go_wp2_with fail
  refine wp_region_lexT (Grow V3) ((Grow.refl V3).dr) 3 [0, 2, 1] (by kernel_rfl) (by kernel_rfl) (by intro c a d v w h; cases d <;> exact h) ?_
  iterate 1 (apply lext_take; exact rfl; exact rfl; (intro W hW; have z0 := (Y1.out.gr hW).c0; have z1 := (Y1.out.gr hW).c1; (try clear hW); go_simp; with_reducible rfl); try simp only [Act.put, sA, sZ, sS])
  iterate 1 (apply lext_take; exact rfl; exact rfl; (intro W hW; have z0 := (Y2.out.gr hW).c0; have z1 := (Y2.out.gr hW).c1; (try clear hW); go_simp; with_reducible rfl); try simp only [Act.put, sA, sZ, sS])
  apply lext_turn; exact rfl; exact rfl; exact rfl; intro K hK; go_simp; go_at_call 35; refine neg_any (n1 * e2) (k1 + j2) _ _ _ (Y1.out.gr (Grow.refl V3).dr).big (by omega) ?_; intro r5 V4 hg5 hr5; obtain ⟨pm, Am, nm, cm, rfl⟩ := hr5.parts; have H5 := Lh ((Grow.refl V3).dr.tr hg5); have RM := Lh (hr5.into fun b hb => hb.1); refine hK.out _ _ H5.out ?_; clear hK hg5 hr5
  try simp only [Act.put, sA, sZ, sS]
  refine lext_nil ?_; simp only [List.drop_succ_cons, List.drop_zero]; go_wp2_with fail
  go_at_call 35; refine neg_any (e1 * n2) (j1 + k2) _ _ _ (Y2.out.gr H5.out).big (by omega) ?_; intro r6 V5 hg6 hr6; obtain ⟨pe, Ae, ne, ce, rfl⟩ := hr6.parts; have H6 := Lh (H5.out.tr hg6); have RM := Lh (RM.out.gr hg6); have RE := Lh (hr6.into fun b hb => hb.1); clear hg6 hr6 t1; have F1 := (Y1.out.gr H6.out).blk; have F2 := (st2_other (W := V5) (c := b2) (b := b1) NE.out.symm (.bool pm) (.slice Am nm cm)).trans (Y2.out.gr H6.out).blk
  have GV3 : Hid (Grow wa (st2 (st2 V5 b1 (.bool pm) (.slice Am nm cm)) b2 (.bool pe) (.slice Ae ne ce))) := ((GV.out.tr H6.out).st2 B1.out _ _).st2 B2.out _ _
  have Y3 : Hid (NumBox (st2 (st2 V5 b1 (.bool pm) (.slice Am nm cm)) b2 (.bool pe) (.slice Ae ne ce)) b1 pm Am nm cm (-(n1 * e2)) (k1 + j2) (fun b => v1.heap.size <= b /\ b < v2.heap.size)) :=
   ⟨(st2_other NE.out _ _).trans (st2_same F1 _ _), (RM.out.st2 (fun b hb => (NN.out b hb).1) _ _).st2 (fun b hb => (NN.out b hb).2) _ _⟩
  have Y4 : Hid (NumBox (st2 (st2 V5 b1 (.bool pm) (.slice Am nm cm)) b2 (.bool pe) (.slice Ae ne ce)) b2 pe Ae ne ce (-(e1 * n2)) (j1 + k2) (fun b => v3.heap.size <= b /\ b < v4.heap.size)) :=
   ⟨st2_same F2 _ _, (RE.out.st2 (fun b hb => (ND.out b hb).1) _ _).st2 (fun b hb => (ND.out b hb).2) _ _⟩
  simp only [st2] at F2; have c0 := cell_of_row _ b1 0 _ _ (0, 0) F1; have f0 := frozen_of_row _ b1 0 _ _ F1; have g1 := blk_set F1 0 (.bool pm); have c1 := cell_of_row _ b1 1 _ _ (0, 0) g1; have f1 := frozen_of_row _ b1 1 _ _ g1; have d0 := cell_of_row _ b2 0 _ _ (0, 0) F2; have e0 := frozen_of_row _ b2 0 _ _ F2; have g2 := blk_set F2 0 (.bool pe); have d1 := cell_of_row _ b2 1 _ _ (0, 0) g2; have e1 := frozen_of_row _ b2 1 _ _ g2; simp only [sA, sZ] at c0 c1 d0 d1; clear g1 g2 F1 F2; have xz0 := Y3.out.c0; have xz1 := Y3.out.c1; have xy0 := Y4.out.c0
  have xy1 := Y4.out.c1; have hb := K2.out _ GV3.out; have xc0 := cell_of_row _ (w.heap.size + 1 + 1) 0 _ _ (0, 0) hb; have xf0 := frozen_of_row _ (w.heap.size + 1 + 1) 0 _ _ hb; have xb1 := blk_set hb 0 (.bool pm); have xc1 := cell_of_row _ (w.heap.size + 1 + 1) 1 _ _ (0, 0) xb1; have xf1 := frozen_of_row _ (w.heap.size + 1 + 1) 1 _ _ xb1; have xb2 := blk_set xb1 1 (.slice Am nm cm); have xc2 := cell_of_row _ (w.heap.size + 1 + 1) 2 _ _ (0, 0) xb2; have xf2 := frozen_of_row _ (w.heap.size + 1 + 1) 2 _ _ xb2; have xb3 := blk_set xb2 2 (.bool pe)
  have xc3 := cell_of_row _ (w.heap.size + 1 + 1) 3 _ _ (0, 0) xb3; have xf3 := frozen_of_row _ (w.heap.size + 1 + 1) 3 _ _ xb3; have xb4 := blk_set xb3 3 (.slice Ae ne ce); have xr0 := cell_of_row _ (w.heap.size + 1 + 1) 0 _ _ (0, 0) xb4; have xr1 := cell_of_row _ (w.heap.size + 1 + 1) 1 _ _ (0, 0) xb4; have xr2 := cell_of_row _ (w.heap.size + 1 + 1) 2 _ _ (0, 0) xb4; have xr3 := cell_of_row _ (w.heap.size + 1 + 1) 3 _ _ (0, 0) xb4; simp only [sA, sZ, sS] at xc0 xc1 xc2 xc3 xr0 xr1 xr2 xr3; clear xb1 xb2 xb3 xb4; clear hb
  simp only [st2] at xz0 xz1 xy0 xy1 xc0 xf0 xc1 xf1 xc2 xf2 xc3 xf3 xr0 xr1 xr2 xr3; go_wp2; refine bodyPost_ret (v := .agg #[.bool pm, .slice Am nm cm, .bool pe, .slice Ae ne ce]) (by simp [results, Tryz.f15, go_sem, xr0, xr1, xr2, xr3]) rfl (HR.out _ _ ?_ ?_)
  ·exact (GA.out.tr GV3.out).st4 (by omega) _ _ _ _
  ·exact ⟨_, _, _, _, _, _, _, _, rfl, (Y3.out.big.st4 (fun b hb => (SN.out b hb).2) _ _ _ _).into fun b hb => (SN.out b hb).1, (Y4.out.big.st4 (fun b hb => (SD.out b hb).2) _ _ _ _).into fun b hb => (SD.out b hb).1⟩
 ·have t1 : decide (sg < 0) = false := decide_eq_false fun h => h0 (hs.1 h)
  rw [if_neg h0, if_neg h0] at HR; clear hs h0; have xz0 := Y1.out.c0; have xz1 := Y1.out.c1; have xy0 := Y2.out.c0; have xy1 := Y2.out.c1; have hb := K2.out _ GV.out; have xc0 := cell_of_row _ (w.heap.size + 1 + 1) 0 _ _ (0, 0) hb; have xf0 := frozen_of_row _ (w.heap.size + 1 + 1) 0 _ _ hb; have xb1 := blk_set hb 0 (.bool pn); have xc1 := cell_of_row _ (w.heap.size + 1 + 1) 1 _ _ (0, 0) xb1; have xf1 := frozen_of_row _ (w.heap.size + 1 + 1) 1 _ _ xb1; have xb2 := blk_set xb1 1 (.slice An nn cn); have xc2 := cell_of_row _ (w.heap.size + 1 + 1) 2 _ _ (0, 0) xb2
  have xf2 := frozen_of_row _ (w.heap.size + 1 + 1) 2 _ _ xb2; have xb3 := blk_set xb2 2 (.bool pd); have xc3 := cell_of_row _ (w.heap.size + 1 + 1) 3 _ _ (0, 0) xb3; have xf3 := frozen_of_row _ (w.heap.size + 1 + 1) 3 _ _ xb3; have xb4 := blk_set xb3 3 (.slice Ad nd cd); have xr0 := cell_of_row _ (w.heap.size + 1 + 1) 0 _ _ (0, 0) xb4; have xr1 := cell_of_row _ (w.heap.size + 1 + 1) 1 _ _ (0, 0) xb4; have xr2 := cell_of_row _ (w.heap.size + 1 + 1) 2 _ _ (0, 0) xb4; have xr3 := cell_of_row _ (w.heap.size + 1 + 1) 3 _ _ (0, 0) xb4
  simp only [sA, sZ, sS] at xc0 xc1 xc2 xc3 xr0 xr1 xr2 xr3; clear xb1 xb2 xb3 xb4; clear hb; go_wp2; refine bodyPost_ret (v := .agg #[.bool pn, .slice An nn cn, .bool pd, .slice Ad nd cd]) (by simp [results, Tryz.f15, go_sem, xr0, xr1, xr2, xr3]) rfl (HR.out _ _ ?_ ?_)
  ·exact (GA.out.tr GV.out).st4 (by omega) _ _ _ _
  ·exact ⟨_, _, _, _, _, _, _, _, rfl, (Y1.out.big.st4 (fun b hb => (SN.out b hb).2) _ _ _ _).into fun b hb => (SN.out b hb).1, (Y2.out.big.st4 (fun b hb => (SD.out b hb).2) _ _ _ _).into fun b hb => (SD.out b hb).1⟩
end Go.Proofs.YteeeeddeacepmaaGreatDoor
namespace Go.Proofs.YteeeeddeacepmaaGreatDoor
set_option maxRecDepth 100000
open Go.RowKit Go.Lib B
end Go.Proofs.YteeeeddeacepmaaGreatDoor
namespace Go.Proofs.YteeeeddeacepmaaGreatDoor
set_option maxRecDepth 100000
open Go.RowKit Go.Lib B
set_option maxHeartbeats 3000000 in
theorem times22_any (n1 e1 n2 e2 : Int) (k1 j1 k2 j2 : Nat) (a b : Value) (S T : Nat -> Prop) (w : World) (ha : RatR w S a n1 e1 k1 j1) (hb : RatR w T b n2 e2 k2 j2) (hk1 : k1 <= 10000) (hk2 : k2 <= 10000) (hj1 : j1 <= 10000) (hj2 : j2 <= 10000) {R : Ending -> World -> Prop}
  (hR : ∀ v w', Grow w w' -> RatR w' (fun b => w.heap.size <= b) v (n1 * n2) (e1 * e2) (k1 + k2) (j1 + j2) -> R (.returned v) w') :
  Calls Tryz.prog 47 #[a, b] w R := by
 have HR := Lh hR; clear hR; obtain ⟨p, A, x, c, p', A', x', c', rfl, ha1, ha2⟩ := ha; obtain ⟨q, B, y, d, q', B', y', d', rfl, hb1, hb2⟩ := hb; have HA1 := Lh ha1; have HA2 := Lh ha2; have HB1 := Lh hb1; have HB2 := Lh hb2; clear ha1 ha2 hb1 hb2
 obtain ⟨wa, hwa⟩ : ∃ wa, wa = ((w.alloc (.cells #[.bool p, .slice A x c, .bool p', .slice A' x' c'] 42)).alloc (.cells #[.bool q, .slice B y d, .bool q', .slice B' y' d'] 42)).alloc (.cells #[.bool false, .slice none 0 0, .bool false, .slice none 0 0] 42) := ⟨_, rfl⟩
 have K0 : Hid (∀ W, Grow wa W -> W.heap[w.heap.size]? = some (.cells #[.bool p, .slice A x c, .bool p', .slice A' x' c'] 42 (0, 0))) := fun W h => by
  subst hwa; exact blk_al w _ _ ((((Grow.refl _).al _).al _).tr h)
 have K1 : Hid (∀ W, Grow wa W -> W.heap[w.heap.size + 1]? = some (.cells #[.bool q, .slice B y d, .bool q', .slice B' y' d'] 42 (0, 0))) := fun W h => by
  subst hwa; have := blk_al (w.alloc (.cells #[.bool p, .slice A x c, .bool p', .slice A' x' c'] 42)) _ _ (((Grow.refl _).al _).tr h)
  rwa [World.size_alloc] at this
 have K2 : Hid (∀ W, Grow wa W -> W.heap[w.heap.size + 1 + 1]? = some (.cells #[.bool false, .slice none 0 0, .bool false, .slice none 0 0] 42 (0, 0))) := fun W h => by
  subst hwa; have := blk_al _ _ _ h
  rwa [World.size_alloc, World.size_alloc] at this
 have GA : Hid (Grow w wa) := by subst hwa; exact (((Grow.refl w).al _).al _).al _
 have GS : Hid (wa.heap.size = w.heap.size + 3) := by
  subst hwa; show _ = _; rw [World.size_alloc, World.size_alloc, World.size_alloc]
 go_enter Tryz.func47, Tryz.ntmps47
 go_wp2_with fail
 rw [<- hwa]; clear hwa; refine wp_region_lexT (Grow wa) ((Grow.refl wa).dr) 9 [0, 1, 2, 3, 5, 6, 7, 8, 4] (by kernel_rfl) (by kernel_rfl) (by intro c a d v w h; cases d <;> exact h) ?_
 iterate 8 (apply lext_take; exact rfl; exact rfl; (intro W hW; have z0 := cell_of_row _ w.heap.size 0 _ _ (0, 0) (K0.out _ hW); have z1 := cell_of_row _ w.heap.size 1 _ _ (0, 0) (K0.out _ hW); have z2 := cell_of_row _ w.heap.size 2 _ _ (0, 0) (K0.out _ hW); have z3 := cell_of_row _ w.heap.size 3 _ _ (0, 0) (K0.out _ hW); have y0 := cell_of_row _ (w.heap.size + 1) 0 _ _ (0, 0) (K1.out _ hW); have y1 := cell_of_row _ (w.heap.size + 1) 1 _ _ (0, 0) (K1.out _ hW); have y2 := cell_of_row _ (w.heap.size + 1) 2 _ _ (0, 0) (K1.out _ hW); have y3 := cell_of_row _ (w.heap.size + 1) 3 _ _ (0, 0) (K1.out _ hW); (try clear hW); go_simp; with_reducible rfl); try simp only [Act.put, sA, sZ, sS])
 apply lext_turn; exact rfl; exact rfl; exact rfl; intro K hK; go_simp; go_at_call 29; refine mul_any n1 n2 k1 k2 _ _ _ _ _ (HA1.out.gr (GA.out.tr (Grow.refl wa).dr)) (HB1.out.gr (GA.out.tr (Grow.refl wa).dr)) (by omega) (by omega) ?_; intro r4 w4 hg4 hr4; obtain ⟨p4, A4, n4, c4, rfl⟩ := hr4.parts; have G4 := Lh ((Grow.refl wa).dr.tr hg4); have R4 := Lh hr4; refine hK.out _ _ G4.out ?_; clear hK hg4 hr4
 try simp only [Act.put, sA, sZ, sS]
 refine lext_nil ?_; simp only [List.drop_succ_cons, List.drop_zero]; go_wp2_with fail
 go_at_call 29; refine mul_any e1 e2 j1 j2 _ _ _ _ w4 (HA2.out.gr (GA.out.tr G4.out)) (HB2.out.gr (GA.out.tr G4.out)) (by omega) (by omega) ?_; intro r5 w5 hg5 hr5; obtain ⟨p5, A5, n5, c5, rfl⟩ := hr5.parts; have G5 := Lh (G4.out.tr hg5); have R4 := Lh (R4.out.gr hg5); have R5 := Lh hr5; have SZ4 := Lh (show w.heap.size + 3 <= w4.heap.size by have := G4.out.size; have := GS.out; omega); have SZ3 := Lh (show w.heap.size + 3 <= wa.drew.heap.size by have := (Grow.refl wa).dr.size; have := GS.out; omega); clear hg5 hr5; have hb := K2.out _ G5.out
 have xc0 := cell_of_row _ (w.heap.size + 1 + 1) 0 _ _ (0, 0) hb; have xf0 := frozen_of_row _ (w.heap.size + 1 + 1) 0 _ _ hb; have xb1 := blk_set hb 0 (.bool p4); have xc1 := cell_of_row _ (w.heap.size + 1 + 1) 1 _ _ (0, 0) xb1; have xf1 := frozen_of_row _ (w.heap.size + 1 + 1) 1 _ _ xb1; have xb2 := blk_set xb1 1 (.slice A4 n4 c4); have xc2 := cell_of_row _ (w.heap.size + 1 + 1) 2 _ _ (0, 0) xb2; have xf2 := frozen_of_row _ (w.heap.size + 1 + 1) 2 _ _ xb2; have xb3 := blk_set xb2 2 (.bool p5); have xc3 := cell_of_row _ (w.heap.size + 1 + 1) 3 _ _ (0, 0) xb3
 have xf3 := frozen_of_row _ (w.heap.size + 1 + 1) 3 _ _ xb3; have xb4 := blk_set xb3 3 (.slice A5 n5 c5); have xr0 := cell_of_row _ (w.heap.size + 1 + 1) 0 _ _ (0, 0) xb4; have xr1 := cell_of_row _ (w.heap.size + 1 + 1) 1 _ _ (0, 0) xb4; have xr2 := cell_of_row _ (w.heap.size + 1 + 1) 2 _ _ (0, 0) xb4; have xr3 := cell_of_row _ (w.heap.size + 1 + 1) 3 _ _ (0, 0) xb4; simp only [sA, sZ, sS] at xc0 xc1 xc2 xc3 xr0 xr1 xr2 xr3; clear xb1 xb2 xb3 xb4; go_wp2
 refine bodyPost_ret (v := .agg #[.bool p4, .slice A4 n4 c4, .bool p5, .slice A5 n5 c5]) (by simp [results, Tryz.f47, go_sem, xr0, xr1, xr2, xr3]) rfl (HR.out _ _ ?_ ?_)
 ·exact (GA.out.tr G5.out).st4 (by omega) _ _ _ _
 ·have hs0 := SZ3.out
  have hs1 := SZ4.out; exact ⟨_, _, _, _, _, _, _, _, rfl, (R4.out.st4 (fun b hb => by omega) _ _ _ _).into fun b hb => by omega, (R5.out.st4 (fun b hb => by omega) _ _ _ _).into fun b hb => by omega⟩
/-! values -/
theorem div_lt_div_iff' {a b c d : Rat} (hb : 0 < b) (hd : 0 < d) : a / b < c / d ↔ a * d < c * b := by
 rw [Rat.div_lt_iff hb]; rw [show c / d * b = (c * b) / d by grind, Rat.lt_div_iff hd]
def cmpR (a b : Rat) : Int := if a < b then -1 else if b < a then 1 else 0
theorem cmpR_sign (n1 d1 n2 d2 : Int) (h1 : 0 < d1) (h2 : 0 < d2) : (n1 * d2 - n2 * d1).sign = cmpR ((n1 : Rat) / d1) ((n2 : Rat) / d2) := by
 have h1' : (0 : Rat) < d1 := by exact_mod_cast h1
 have h2' : (0 : Rat) < d2 := by exact_mod_cast h2
 have k1 : ((n1 : Rat) / d1 < (n2 : Rat) / d2) ↔ n1 * d2 < n2 * d1 := by
  rw [div_lt_div_iff' h1' h2']; exact_mod_cast Iff.rfl
 have k2 : ((n2 : Rat) / d2 < (n1 : Rat) / d1) ↔ n2 * d1 < n1 * d2 := by
  rw [div_lt_div_iff' h2' h1']; exact_mod_cast Iff.rfl
 unfold cmpR; rcases Int.lt_trichotomy (n1 * d2) (n2 * d1) with h | h | h
 ·rw [if_pos (k1.2 h), Int.sign_eq_neg_one_of_neg (by omega)]
 ·rw [if_neg (fun x => by have := k1.1 x; omega), if_neg (fun x => by have := k2.1 x; omega), h]; simp
 ·rw [if_neg (fun x => by have := k1.1 x; omega), if_pos (k2.2 h), Int.sign_eq_one_of_pos (by omega)]
theorem cast_pos {d : Int} (h : 0 < d) : (0 : Rat) < d := by exact_mod_cast h
theorem addq (n1 d1 n2 d2 : Int) (h1 : 0 < d1) (h2 : 0 < d2) : (((n1 * d2 + n2 * d1 : Int)) : Rat) / ((d1 * d2 : Int) : Rat) = (n1 : Rat) / d1 + n2 / d2 := by
 have := cast_pos h1; have := cast_pos h2; push_cast
 grind
theorem subq (n1 d1 n2 d2 : Int) (h1 : 0 < d1) (h2 : 0 < d2) : (((n1 * d2 + -n2 * d1 : Int)) : Rat) / ((d1 * d2 : Int) : Rat) = (n1 : Rat) / d1 - n2 / d2 := by
 have := cast_pos h1; have := cast_pos h2; push_cast
 grind
theorem mulq (n1 d1 n2 d2 : Int) (h1 : 0 < d1) (h2 : 0 < d2) : (((n1 * n2 : Int)) : Rat) / ((d1 * d2 : Int) : Rat) = (n1 : Rat) / d1 * (n2 / d2) := by
 have := cast_pos h1; have := cast_pos h2; push_cast
 grind
theorem divq (n1 d1 n2 d2 : Int) (h1 : 0 < d1) (h2 : 0 < d2) (hn : n2 ≠ 0) : (((if d1 * n2 < 0 then -(n1 * d2) else n1 * d2 : Int)) : Rat) / ((if d1 * n2 < 0 then -(d1 * n2) else d1 * n2 : Int) : Rat) = (n1 : Rat) / d1 / (n2 / d2) := by
 have := cast_pos h1; have := cast_pos h2; have h3 : (n2 : Rat) ≠ 0 := by exact_mod_cast hn
 split
 ·push_cast; grind
 ·push_cast; grind
theorem cmpR_eq (a b : Rat) : cmpR a b = 0 ↔ a = b := by
 unfold cmpR
 split
 ·constructor
  ·intro h; cases h
  ·intro h; grind
 ·split
  ·constructor
   ·intro h; cases h
   ·intro h; grind
  ·constructor
   ·intro; grind
   ·intro; rfl
theorem cmpR_gt (a b : Rat) : 0 < cmpR a b ↔ b < a := by
 unfold cmpR
 split
 ·constructor
  ·intro h; omega
  ·intro h; grind
 ·split
  ·simp_all
  ·simp_all
theorem cmpR_lt (a b : Rat) : cmpR a b < 0 ↔ a < b := by
 unfold cmpR
 split
 ·simp_all
 ·split
  ·simp_all
  ·simp_all
theorem cmpR_le (a b : Rat) : cmpR a b <= 0 ↔ a <= b := by
 have := cmpR_gt a b; rw [<- Int.not_lt, this]; exact Rat.not_lt
structure BV where
 p : Bool
 A : Option Addr
 n : Nat
 c : Nat
structure RV where
 nu : BV
 de : BV
 q : Rat
def RV.cells (r : RV) : List Value := [.bool r.nu.p, .slice r.nu.A r.nu.n r.nu.c, .bool r.de.p, .slice r.de.A r.de.n r.de.c]
def RV.rd (r : RV) (w : World) (S : Nat -> Prop) (k : Nat) : Prop := ∃ n d : Int, 0 < d /\ r.q = (n : Rat) / (d : Rat) /\ RatR w S (.agg r.cells.toArray) n d k k
theorem RatR.up {w : World} {S : Nat -> Prop} {v : Value} {n d : Int} {k j k' j' : Nat} (h : RatR w S v n d k j) (hk : k <= k') (hj : j <= j') : RatR w S v n d k' j' := by
 obtain ⟨p, A, x, c, p', A', x', c', h1, h2, h3⟩ := h; exact ⟨p, A, x, c, p', A', x', c', h1, h2.up hk, h3.up hj⟩
theorem RatR.rv {w : World} {S : Nat -> Prop} {v : Value} {n d : Int} {k j : Nat} (h : RatR w S v n d k j) (hd : 0 < d) {k' : Nat} (hk : k <= k') (hj : j <= k') : ∃ r : RV, v = .agg r.cells.toArray /\ r.q = (n : Rat) / (d : Rat) /\ r.rd w S k' := by
 obtain ⟨p, A, x, c, p', A', x', c', rfl, h2, h3⟩ := h; exact ⟨⟨⟨p, A, x, c⟩, ⟨p', A', x', c'⟩, (n : Rat) / (d : Rat)⟩, rfl, rfl, n, d, hd, rfl, _, _, _, _, _, _, _, _, rfl, h2.up hk, h3.up hj⟩
theorem RV.rd.gr {r : RV} {w w' : World} {S : Nat -> Prop} {k : Nat} (h : r.rd w S k) (hg : Grow w w') : r.rd w' S k := by
 obtain ⟨n, d, h1, h2, h3⟩ := h; exact ⟨n, d, h1, h2, h3.gr hg⟩
theorem RV.rd.into {r : RV} {w : World} {S T : Nat -> Prop} {k : Nat} (h : r.rd w S k) (hk : ∀ b, S b -> T b) : r.rd w T k := by
 obtain ⟨n, d, h1, h2, h3⟩ := h; exact ⟨n, d, h1, h2, h3.into hk⟩
theorem RV.rd.up {r : RV} {w : World} {S : Nat -> Prop} {k k' : Nat} (h : r.rd w S k) (hk : k <= k') : r.rd w S k' := by
 obtain ⟨n, d, h1, h2, h3⟩ := h; exact ⟨n, d, h1, h2, h3.up hk hk⟩
theorem RV.rd.both {r : RV} {w : World} {S : Nat -> Prop} {k : Nat} (h : r.rd w S k) : r.rd w (fun b => S b /\ b < w.heap.size) k := by
 obtain ⟨n, d, h1, h2, h3⟩ := h; exact ⟨n, d, h1, h2, h3.both⟩
theorem RatR.set {w : World} {S : Nat -> Prop} {v : Value} {n d : Int} {k j : Nat} (h : RatR w S v n d k j) {B i : Nat} (hB : ∀ b, S b -> b ≠ B) (u : Value) : RatR (w.setCell ⟨B, i, none⟩ u) S v n d k j := by
 obtain ⟨p, A, x, c, p', A', x', c', h1, h2, h3⟩ := h; exact ⟨p, A, x, c, p', A', x', c', h1, h2.set hB u, h3.set hB u⟩
theorem RV.rd.set {r : RV} {w : World} {S : Nat -> Prop} {k : Nat} (h : r.rd w S k) {B i : Nat} (hB : ∀ b, S b -> b ≠ B) (u : Value) : r.rd (w.setCell ⟨B, i, none⟩ u) S k := by
 obtain ⟨n, d, h1, h2, h3⟩ := h; exact ⟨n, d, h1, h2, h3.set hB u⟩
theorem order_q (a b : RV) (k1 k2 : Nat) (S T : Nat -> Prop) (w : World) (ha : a.rd w S k1) (hb : b.rd w T k2) (h1 : k1 <= 10000) (h2 : k2 <= 10000) {R : Ending -> World -> Prop}
  (hR : ∀ w', Grow w w' -> R (.returned (.int .i64 (cmpR a.q b.q))) w') :
  Calls Tryz.prog 13 #[.agg a.cells.toArray, .agg b.cells.toArray] w R := by
 obtain ⟨n1, d1, p1, e1, r1⟩ := ha; obtain ⟨n2, d2, p2, e2, r2⟩ := hb; refine order_any n1 d1 n2 d2 k1 k1 k2 k2 _ _ S T w r1 r2 h1 h2 h1 h2 ?_; rw [cmpR_sign _ _ _ _ p1 p2, <- e1, <- e2]; exact hR
theorem plus_q (a b : RV) (k1 k2 : Nat) (S T : Nat -> Prop) (w : World) (ha : a.rd w S k1) (hb : b.rd w T k2) (h1 : k1 <= 10000) (h2 : k2 <= 10000) {R : Ending -> World -> Prop}
  (hR : ∀ (r : RV) w', Grow w w' -> r.q = a.q + b.q -> r.rd w' (fun b => w.heap.size <= b) (k1 + k2 + 1) -> R (.returned (.agg r.cells.toArray)) w') :
  Calls Tryz.prog 16 #[.agg a.cells.toArray, .agg b.cells.toArray] w R := by
 obtain ⟨n1, d1, p1, e1, r1⟩ := ha; obtain ⟨n2, d2, p2, e2, r2⟩ := hb; refine plus22_any n1 d1 n2 d2 k1 k1 k2 k2 _ _ S T w r1 r2 h1 h2 h1 h2 ?_; intro v w' hg hv; obtain ⟨r, rfl, hq, hr⟩ := hv.rv (Int.mul_pos p1 p2) (k' := k1 + k2 + 1) (by omega) (by omega); exact hR r w' hg (by rw [hq, addq _ _ _ _ p1 p2, e1, e2]) hr
theorem minus_q (a b : RV) (k1 k2 : Nat) (S T : Nat -> Prop) (w : World) (ha : a.rd w S k1) (hb : b.rd w T k2) (h1 : k1 <= 10000) (h2 : k2 <= 10000) {R : Ending -> World -> Prop}
  (hR : ∀ (r : RV) w', Grow w w' -> r.q = a.q - b.q -> r.rd w' (fun b => w.heap.size <= b) (k1 + k2 + 1) -> R (.returned (.agg r.cells.toArray)) w') :
  Calls Tryz.prog 48 #[.agg a.cells.toArray, .agg b.cells.toArray] w R := by
 obtain ⟨n1, d1, p1, e1, r1⟩ := ha; obtain ⟨n2, d2, p2, e2, r2⟩ := hb; refine minus22_any n1 d1 n2 d2 k1 k1 k2 k2 _ _ S T w r1 r2 h1 h2 h1 h2 ?_; intro v w' hg hv; obtain ⟨r, rfl, hq, hr⟩ := hv.rv (Int.mul_pos p1 p2) (k' := k1 + k2 + 1) (by omega) (by omega); exact hR r w' hg (by rw [hq, subq _ _ _ _ p1 p2, e1, e2]) hr
theorem times_q (a b : RV) (k1 k2 : Nat) (S T : Nat -> Prop) (w : World) (ha : a.rd w S k1) (hb : b.rd w T k2) (h1 : k1 <= 10000) (h2 : k2 <= 10000) {R : Ending -> World -> Prop}
  (hR : ∀ (r : RV) w', Grow w w' -> r.q = a.q * b.q -> r.rd w' (fun b => w.heap.size <= b) (k1 + k2) -> R (.returned (.agg r.cells.toArray)) w') :
  Calls Tryz.prog 47 #[.agg a.cells.toArray, .agg b.cells.toArray] w R := by
 obtain ⟨n1, d1, p1, e1, r1⟩ := ha; obtain ⟨n2, d2, p2, e2, r2⟩ := hb; refine times22_any n1 d1 n2 d2 k1 k1 k2 k2 _ _ S T w r1 r2 h1 h2 h1 h2 ?_; intro v w' hg hv; obtain ⟨r, rfl, hq, hr⟩ := hv.rv (Int.mul_pos p1 p2) (k' := k1 + k2) (by omega) (by omega); exact hR r w' hg (by rw [hq, mulq _ _ _ _ p1 p2, e1, e2]) hr
theorem over_q (a b : RV) (k1 k2 : Nat) (S T : Nat -> Prop) (w : World) (ha : a.rd w S k1) (hb : b.rd w T k2) (h1 : k1 <= 10000) (h2 : k2 <= 10000) (hne : b.q ≠ 0) {R : Ending -> World -> Prop}
  (hR : ∀ (r : RV) w', Grow w w' -> r.q = a.q / b.q -> r.rd w' (fun b => w.heap.size <= b) (k1 + k2) -> R (.returned (.agg r.cells.toArray)) w') :
  Calls Tryz.prog 15 #[.agg a.cells.toArray, .agg b.cells.toArray] w R := by
 obtain ⟨n1, d1, p1, e1, r1⟩ := ha; obtain ⟨n2, d2, p2, e2, r2⟩ := hb
 have hn : n2 ≠ 0 := by
  rintro rfl; apply hne; rw [e2]; have : ((0 : Int) : Rat) = 0 := rfl; grind
 refine over22_any n1 d1 n2 d2 k1 k1 k2 k2 _ _ S T w r1 r2 h1 h2 h1 h2 ?_; intro v w' hg hv
 have hpos : 0 < (if d1 * n2 < 0 then -(d1 * n2) else d1 * n2) := by
  have : d1 * n2 ≠ 0 := Int.mul_ne_zero (by omega) hn
  split <;> omega
 obtain ⟨r, rfl, hq, hr⟩ := hv.rv hpos (k' := k1 + k2) (by omega) (by omega); exact hR r w' hg (by rw [hq, divq _ _ _ _ p1 p2 hn, e1, e2]) hr
theorem whole_q (n : Int) (w : World) (hn : I64 n) {R : Ending -> World -> Prop}
  (hR : ∀ (r : RV) w', Grow w w' -> r.q = (n : Rat) -> r.rd w' (fun b => w.heap.size <= b) 4 -> R (.returned (.agg r.cells.toArray)) w') :
  Calls Tryz.prog 12 #[.int .i64 n] w R := by
 refine whole_any n w hn ?_; intro v w' hg hv; obtain ⟨r, rfl, hq, hr⟩ := hv.rv (by decide) (k' := 4) (by omega) (by omega); refine hR r w' hg ?_ hr; rw [hq]; have : ((1 : Int) : Rat) = 1 := rfl; grind
def Fr.val (f : Fr) : Rat := (f.q : Rat) + (f.r : Rat) / (f.d : Rat)
theorem rat_q (f : Fr) (w : World) (hf : f.ok) (hd : 0 < f.d) {R : Ending -> World -> Prop}
  (hR : ∀ (r : RV) w', Grow w w' -> r.q = f.val -> r.rd w' (fun b => w.heap.size <= b) 9 -> R (.returned (.agg r.cells.toArray)) w') :
  Calls Tryz.prog 11 #[.agg f.cells.toArray] w R := by
 refine rat23_any f w hf ?_; intro v w' hg hv; obtain ⟨r, rfl, hq, hr⟩ := hv.rv (by omega) (k' := 9) (by omega) (by omega); refine hR r w' hg ?_ hr; rw [hq]; have : (0 : Rat) < ((f.d : Int) : Rat) := cast_pos (by omega); unfold Fr.val; push_cast at this ⊢
 grind
end Go.Proofs.YteeeeddeacepmaaGreatDoor
