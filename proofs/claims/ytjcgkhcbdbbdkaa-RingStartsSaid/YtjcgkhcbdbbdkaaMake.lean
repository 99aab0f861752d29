/-
  frac.Make, frac.Same, frac.Of.
-/
import Derived.Test.YtjcgkhcbdbbdkaaChecked
import Derived.Test.YtjcgkhcbdbbdkaaFrac
import Derived.Test.YtjcgkhcbdbbdkaaBigW
import Derived.Test.YtjcgkhcbdbbdkaaLexT
namespace Go.Proofs.Ytjcgkhcbdbbdkaa
open Go.RowKit Go.Lib B

def Fr.zero : Fr := ⟨0, 0, 0⟩
def makeS (q : Int) (r d : Nat) : Fr × Int :=
  if d ≤ r then (⟨0, 0, 0⟩, 1)
  else if Fr.right ⟨q, r / Nat.gcd r d, d / Nat.gcd r d⟩ = true then (⟨q, r / Nat.gcd r d, d / Nat.gcd r d⟩, 0)
  else (⟨0, 0, 0⟩, 8)
theorem grow_set3 {w W : World} {B : Nat} (hB : w.heap.size ≤ B) (hg : Grow w W) (u0 u1 u2 : Value) : Grow w (((W.setCell ⟨B, 0, none⟩ u0).setCell ⟨B, 1, none⟩ u1).setCell ⟨B, 2, none⟩ u2) :=
  ((hg.set (p := ⟨B, 0, none⟩) hB u0).set (p := ⟨B, 1, none⟩) hB u1).set (p := ⟨B, 2, none⟩) hB u2


set_option maxRecDepth 100000 in
set_option maxHeartbeats 2000000 in
theorem make_any (q : Int) (r d : Nat) (w : World) (hq : -9223372036854775808 ≤ q ∧ q ≤ 9223372036854775807) (hr : r < 18446744073709551616) (hd : d < 18446744073709551616) {R : Ending → World → Prop}
    (hR : ∀ w' f e, makeS q r d = (f, e) → Grow w w' → R (.returned (.tuple #[.agg f.cells.toArray, .int .i64 e])) w') :
    Calls Try.prog 100 #[.int .i64 q, .int .u64 r, .int .u64 d] w R := by
  have HR := Lib.hid hR
  clear hR
  unfold makeS at HR
  obtain ⟨q1, q2⟩ := hq
  by_cases hle : d ≤ r
  · have t1 : decide (d ≤ r) = true := decide_eq_true hle
    have h := Lib.hid fun w' g => HR.out w' ⟨0, 0, 0⟩ 1 (by rw [if_pos hle]) g
    clear HR hle
    go_enter Try.func100, Try.ntmps100
    go_wp2
    refine bodyPost_ret (v := .tuple #[.agg #[.int .i64 0, .int .u64 0, .int .u64 0], .int .i64 1]) (by simp [results, Try.f100, go_sem]) rfl (h.out _ ((Grow.refl w).al _))
  · have t1 : decide (d ≤ r) = false := decide_eq_false hle
    rw [if_neg hle] at HR
    have GC := Lib.hid fun W (R : Ending → World → Prop) hR => gcd_any r d W hr hd (R := R) hR
    have hg0 : Nat.gcd r d ≠ 0 := by
      intro h
      have := Nat.eq_zero_of_gcd_eq_zero_right h
      omega
    obtain ⟨g, hg⟩ : ∃ g, Nat.gcd r d = g := ⟨_, rfl⟩
    rw [hg] at GC HR hg0
    obtain ⟨x, hx⟩ : ∃ x, r / g = x := ⟨_, rfl⟩
    obtain ⟨y, hy⟩ : ∃ y, d / g = y := ⟨_, rfl⟩
    have hxb : x < 18446744073709551616 := by rw [← hx]; exact Nat.lt_of_le_of_lt (Nat.div_le_self _ _) hr
    have hyb : y < 18446744073709551616 := by rw [← hy]; exact Nat.lt_of_le_of_lt (Nat.div_le_self _ _) hd
    have e1 : IntKind.u64.wrap ((r : Int) / g) = (x : Int) := by rw [← Int.natCast_ediv, hx]; exact IntWalk.u64_in _ (by omega)
    have e2 : IntKind.u64.wrap ((d : Int) / g) = (y : Int) := by rw [← Int.natCast_ediv, hy]; exact IntWalk.u64_in _ (by omega)
    have e3 : ¬ (g : Int) = 0 := by omega
    have e4 : ((g : Int) == 0) = false := by rw [beq_eq_false_iff_ne]; exact e3
    rw [hx, hy] at HR
    have FR := Lib.hid fun W (R : Ending → World → Prop) hR => right_any ⟨q, x, y⟩ W ⟨q1, q2, hxb, hyb⟩ (R := R) hR
    unfold Fr.cells at FR
    dsimp only at FR
    obtain ⟨ok, hok⟩ : ∃ ok, Fr.right ⟨q, x, y⟩ = ok := ⟨_, rfl⟩
    rw [hok] at FR HR
    clear hg hx hy hok hle
    cases ok with
    | true =>
      have h := Lib.hid fun w' g => HR.out w' ⟨q, x, y⟩ 0 (by simp) g
      clear HR
      go_enter Try.func100, Try.ntmps100
      go_wp2_with fail
      go_at_call 86
      refine GC.out _ _ ?_
      intro w1 hg1
      have G1 := Lib.hid (grow_al hg1)
      have K1 := Lib.hid (blk_al _ _ _ hg1)
      clear hg1
      go_wp2_with fail
      refine wp_region_lexT (Grow w1) ((Grow.refl w1).dr) 9 [0, 1, 2, 3, 4, 5, 6, 7, 8] (by kernel_rfl) (by kernel_rfl) (by intro c a d v w h; cases d <;> exact h) ?_
      iterate 8 (apply lext_take; exact rfl; exact rfl; (intro W hW; (try clear hW); go_simp; with_reducible rfl); try simp only [Act.put, List.setIfInBounds_toArray, List.set_cons_zero, List.set_cons_succ])
      apply lext_turn; exact rfl; exact rfl; exact rfl; intro K hK; go_simp; refine hK.out _ _ ((Grow.refl w1).dr.al _) ?_; clear hK; try simp only [Act.put, List.setIfInBounds_toArray, List.set_cons_zero, List.set_cons_succ]
      refine lext_nil ?_
      simp only [List.drop_succ_cons, List.drop_zero]
      go_wp2_with fail
      go_at_call 55
      refine FR.out _ _ ?_
      intro w2 hg2
      have G2 := Lib.hid (((Grow.refl w1).al (.cells #[.int .i64 q, .int .u64 (x : Nat), .int .u64 (y : Nat)] 26)).dr.tr hg2)
      have K2 := K1.out
      have hb3 := grow_blk (((Grow.refl w1).al (.cells #[.int .i64 q, .int .u64 (x : Nat), .int .u64 (y : Nat)] 26)).dr.tr hg2) K1.out
      have BX := box_at (grow_drew hg2)
      clear hg2 K2
      have c0 := cell_of_row _ w.heap.size 0 _ _ (0, 0) hb3
      have f0 := frozen_of_row _ w.heap.size 0 _ _ hb3
      have b1 := blk_set hb3 0 (.int .i64 q)
      have c1 := cell_of_row _ w.heap.size 1 _ _ (0, 0) b1
      have f1 := frozen_of_row _ w.heap.size 1 _ _ b1
      have b2 := blk_set b1 1 (.int .u64 (x : Nat))
      have c2 := cell_of_row _ w.heap.size 2 _ _ (0, 0) b2
      have f2 := frozen_of_row _ w.heap.size 2 _ _ b2
      have b3 := blk_set b2 2 (.int .u64 (y : Nat))
      have r0 := cell_of_row _ w.heap.size 0 _ _ (0, 0) b3
      have r1 := cell_of_row _ w.heap.size 1 _ _ (0, 0) b3
      have r2 := cell_of_row _ w.heap.size 2 _ _ (0, 0) b3
      simp only [List.setIfInBounds_toArray, List.set_cons_zero, List.set_cons_succ] at c0 c1 c2 r0 r1 r2
      clear b1 b2 b3
      clear hb3
      go_wp2
      refine bodyPost_ret (v := .tuple #[.agg #[.int .i64 q, (.int .u64 (x : Nat)), (.int .u64 (y : Nat))], .int .i64 0]) (by simp [results, Try.f100, go_sem, r0, r1, r2]) rfl (h.out _ ?_)
      exact grow_set3 (Nat.le_refl _) (G1.out.tr G2.out) _ _ _
    | false =>
      have h := Lib.hid fun w' g => HR.out w' ⟨0, 0, 0⟩ 8 (by simp) g
      clear HR
      go_enter Try.func100, Try.ntmps100
      go_wp2_with fail
      go_at_call 86
      refine GC.out _ _ ?_
      intro w1 hg1
      have G1 := Lib.hid (grow_al hg1)
      have K1 := Lib.hid (blk_al _ _ _ hg1)
      clear hg1
      go_wp2_with fail
      refine wp_region_lexT (Grow w1) ((Grow.refl w1).dr) 9 [0, 1, 2, 3, 4, 5, 6, 7, 8] (by kernel_rfl) (by kernel_rfl) (by intro c a d v w h; cases d <;> exact h) ?_
      iterate 8 (apply lext_take; exact rfl; exact rfl; (intro W hW; (try clear hW); go_simp; with_reducible rfl); try simp only [Act.put, List.setIfInBounds_toArray, List.set_cons_zero, List.set_cons_succ])
      apply lext_turn; exact rfl; exact rfl; exact rfl; intro K hK; go_simp; refine hK.out _ _ ((Grow.refl w1).dr.al _) ?_; clear hK; try simp only [Act.put, List.setIfInBounds_toArray, List.set_cons_zero, List.set_cons_succ]
      refine lext_nil ?_
      simp only [List.drop_succ_cons, List.drop_zero]
      go_wp2_with fail
      go_at_call 55
      refine FR.out _ _ ?_
      intro w2 hg2
      have G2 := Lib.hid (((Grow.refl w1).al (.cells #[.int .i64 q, .int .u64 (x : Nat), .int .u64 (y : Nat)] 26)).dr.tr hg2)
      have K2 := K1.out
      have hb3 := grow_blk (((Grow.refl w1).al (.cells #[.int .i64 q, .int .u64 (x : Nat), .int .u64 (y : Nat)] 26)).dr.tr hg2) K1.out
      have BX := box_at (grow_drew hg2)
      clear hg2 K2
      have c0 := cell_of_row _ w.heap.size 0 _ _ (0, 0) hb3
      have f0 := frozen_of_row _ w.heap.size 0 _ _ hb3
      have b1 := blk_set hb3 0 (.int .i64 0)
      have c1 := cell_of_row _ w.heap.size 1 _ _ (0, 0) b1
      have f1 := frozen_of_row _ w.heap.size 1 _ _ b1
      have b2 := blk_set b1 1 (.int .u64 0)
      have c2 := cell_of_row _ w.heap.size 2 _ _ (0, 0) b2
      have f2 := frozen_of_row _ w.heap.size 2 _ _ b2
      have b3 := blk_set b2 2 (.int .u64 0)
      have r0 := cell_of_row _ w.heap.size 0 _ _ (0, 0) b3
      have r1 := cell_of_row _ w.heap.size 1 _ _ (0, 0) b3
      have r2 := cell_of_row _ w.heap.size 2 _ _ (0, 0) b3
      simp only [List.setIfInBounds_toArray, List.set_cons_zero, List.set_cons_succ] at c0 c1 c2 r0 r1 r2
      clear b1 b2 b3
      clear hb3
      go_wp2
      refine bodyPost_ret (v := .tuple #[.agg #[.int .i64 0, (.int .u64 0), (.int .u64 0)], .int .i64 8]) (by simp [results, Try.f100, go_sem, r0, r1, r2]) rfl (h.out _ ?_)
      exact grow_set3 (Nat.le_refl _) (G1.out.tr G2.out) _ _ _

def Fr.same (f g : Fr) : Bool := decide (f.q = g.q) && decide (f.r = g.r) && decide (f.d = g.d)
theorem Fr.same_self (f : Fr) : f.same f = true := by simp [Fr.same]
/-- two fractions are the same, or differ first here or there -/
theorem Fr.split (f g : Fr) : (f = g ∧ f.same g = true) ∨ (((f.q == g.q) = false ∨ f.q = g.q ∧ (((f.r : Int) == g.r) = false ∨ f.r = g.r ∧ ((f.d : Int) == g.d) = false)) ∧ f.same g = false) := by
  obtain ⟨a, b, c⟩ := f
  obtain ⟨x, y, z⟩ := g
  simp only [Fr.same, Fr.mk.injEq, Bool.and_eq_true, Bool.and_eq_false_iff, decide_eq_true_eq, decide_eq_false_iff_not, beq_eq_false_iff_ne]
  omega

set_option maxRecDepth 100000 in
set_option maxHeartbeats 1000000 in
theorem of23_any (q : Int) (w : World) {R : Ending → World → Prop} (hR : ∀ w', Grow w w' → R (.returned (.agg #[.int .i64 q, .int .u64 0, .int .u64 1])) w') :
    Calls Try.prog 50 #[.int .i64 q] w R := by
  have HR := Lib.hid hR
  clear hR
  go_enter Try.func50, Try.ntmps50
  go_wp2
  exact bodyPost_ret (v := .agg #[.int .i64 q, .int .u64 0, .int .u64 1]) (by simp [results, Try.f50, go_sem]) rfl (HR.out _ ((Grow.refl w).al _))
end Go.Proofs.Ytjcgkhcbdbbdkaa
