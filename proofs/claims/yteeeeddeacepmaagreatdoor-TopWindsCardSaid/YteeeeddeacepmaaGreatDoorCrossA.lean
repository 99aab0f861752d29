import Derived.Test.YteeeeddeacepmaaGreatDoorPtsA
namespace Go.Proofs.YteeeeddeacepmaaGreatDoor
set_option maxRecDepth 100000
open Go.RowKit Go.Lib B
set_option maxHeartbeats 1000000 in
theorem xfar_any (p : Pt) (w : World) {R : Ending -> World -> Prop} (hR : ∀ w', Grow w w' -> R (.returned (.bool p.far)) w') : Calls Tryz.prog 98 #[.agg p.cells.toArray] w R := by
 obtain ⟨x, y⟩ := p; have HR : ∀ b w', (Pt.far ⟨x, y⟩) = b -> Grow w w' -> R (.returned (.bool b)) w' := by rintro b w' rfl h; exact hR _ h
 have HR := Lh HR; clear hR; have HI := Lh fun W (R : Ending -> World -> Prop) hR => in_any x W (R := R) hR
 have HJ := Lh fun W (R : Ending -> World -> Prop) hR => in_any y W (R := R) hR
 unfold Pt.cells; dsimp only
 cases hq : inw x
 ·rw [hq] at HI
  have hq := Lh hq; go_enter Tryz.func98, Tryz.ntmps98
  go_wp2_with (go_at_call 99; refine HI.out _ _ ?_)
  refine HR.out _ _ (by simp [Pt.far, hq.out]) ((Grow.refl w).al _)
 ·rw [hq] at HI
  have hq := Lh hq; go_enter Tryz.func98, Tryz.ntmps98
  go_wp2_with (go_at_call 99; first | (refine HI.out _ _ ?_) | (refine HJ.out _ _ ?_))
  refine HR.out _ _ (by simp [Pt.far, hq.out]) ((Grow.refl w).al _)
end Go.Proofs.YteeeeddeacepmaaGreatDoor
namespace Go.Proofs.YteeeeddeacepmaaGreatDoor
set_option maxRecDepth 100000
open Go.RowKit
def Pt.swap (p : Pt) : Pt := ⟨p.y, p.x⟩
theorem Pt.swap_far (p : Pt) : p.swap.far = p.far := by simp only [Pt.far, Pt.swap, Bool.or_comm]
def crossX (p q : Pt) (c : Int) : Int := if q.x - p.x < 0 then -((c - p.x) * (q.y - p.y)) else (c - p.x) * (q.y - p.y)
def crossD (p q : Pt) : Nat := (q.x - p.x).natAbs
def lowF (n : Int) (r d : Nat) : Fr := ⟨n, r / Nat.gcd r d, d / Nat.gcd r d⟩
def crossF (p q : Pt) (c : Int) : Fr := lowF (p.y + crossX p q c / crossD p q) (crossX p q c % crossD p q).toNat (crossD p q)
def noneB (p q : Pt) (c : Int) : Bool := decide (p.x = q.x) || decide (c < min p.x q.x) || decide (max p.x q.x < c)
def crossC (p q : Pt) (c : Int) : Fr × Int := if noneB p q c = true then (⟨0, 0, 0⟩, 6) else (crossF p q c, 0)
def crossS (p q : Pt) (c : Int) (up : Bool) : Fr × Int :=
 if (p.far || q.far || !inw c) = true then (⟨0, 0, 0⟩, 8)
 else if up = true then crossC p.swap q.swap c else crossC p q c
theorem noneB_false {p q : Pt} {c : Int} (h : noneB p q c = false) : p.x ≠ q.x /\ min p.x q.x <= c /\ c <= max p.x q.x := by
 simp only [noneB, Bool.or_eq_false_iff, decide_eq_false_iff_not] at h; omega
theorem far_false {p : Pt} (h : p.far = false) : (-4503599627370496 <= p.x /\ p.x <= 4503599627370496) /\ -4503599627370496 <= p.y /\ p.y <= 4503599627370496 := by
 simp [Pt.far, inw] at h
 omega
theorem q_bd {X n b : Int} {D r : Nat} (h : X - n * D = r) (hr : r < D) : (0 <= X -> X <= b * D -> 0 <= n /\ n <= b) /\ (b * D <= X -> X <= 0 -> b <= n /\ n <= 0) := by
 have key : ∀ u v : Int, u <= v - 1 -> u * (D : Int) <= v * D - D := fun u v h => by
  have := Int.mul_le_mul_of_nonneg_right h (show (0 : Int) <= D by omega)
  rwa [Int.sub_mul, Int.one_mul] at this
 refine ⟨fun h1 h2 => ⟨?_, ?_⟩, fun h1 h2 => ⟨?_, ?_⟩⟩ <;> refine Int.not_lt.1 fun h3 => ?_
 ·have := key n 0 (by omega); omega
 ·have := key b n (by omega); omega
 ·have := key n b (by omega); omega
 ·have := key 0 n (by omega); omega
theorem cross_bd {p q : Pt} {c : Int} (hn : noneB p q c = false) : 0 < crossD p q /\ ((0 <= crossX p q c /\ crossX p q c <= (q.y - p.y) * (crossD p q : Int)) ∨ ((q.y - p.y) * (crossD p q : Int) <= crossX p q c /\ crossX p q c <= 0)) := by
 obtain ⟨h1, h2, h3⟩ := noneB_false hn; unfold crossX crossD; generalize q.y - p.y = b; refine ⟨by omega, ?_⟩
 obtain ⟨A, hA, e⟩ : ∃ A : Int, (0 <= A /\ A <= ((q.x - p.x).natAbs : Nat)) /\ (if q.x - p.x < 0 then -((c - p.x) * b) else (c - p.x) * b) = A * b := by
  by_cases h : q.x - p.x < 0
  ·exact ⟨-(c - p.x), by omega, by rw [if_pos h, Int.neg_mul]⟩
  ·exact ⟨c - p.x, by omega, by rw [if_neg h]⟩
 rw [e]; generalize (q.x - p.x).natAbs = D at *
 by_cases hb : 0 <= b
 ·exact .inl ⟨Int.mul_nonneg hA.1 hb, by rw [Int.mul_comm b]; exact Int.mul_le_mul_of_nonneg_right hA.2 hb⟩
 ·refine .inr ⟨by rw [Int.mul_comm b]; exact Int.mul_le_mul_of_nonpos_right hA.2 (by omega), ?_⟩
  have := Int.mul_nonneg hA.1 (show 0 <= -b by omega); rw [Int.mul_neg] at this; omega
theorem lowF_right {n : Int} {r d : Nat} (h1 : -4503599627370496 <= n) (h2 : n <= 4503599627370496) (hr : r < d) (hd : d <= 9007199254740992) : (lowF n r d).right = true := by
 have hg : 0 < Nat.gcd r d := Nat.gcd_pos_of_pos_right _ (by omega)
 have e1 : r / Nat.gcd r d < d / Nat.gcd r d := by
  have := Nat.div_mul_cancel (Nat.gcd_dvd_left r d); have h3 := Nat.div_mul_cancel (Nat.gcd_dvd_right r d); generalize r / Nat.gcd r d = x at *; generalize d / Nat.gcd r d = y at *; generalize Nat.gcd r d = g at *; subst this; rw [<- h3] at hr; exact Nat.lt_of_mul_lt_mul_right hr
 have e2 : d / Nat.gcd r d <= d := Nat.div_le_self _ _
 have e3 : Nat.gcd (r / Nat.gcd r d) (d / Nat.gcd r d) = 1 := by
  rw [Nat.gcd_div (Nat.gcd_dvd_left r d) (Nat.gcd_dvd_right r d), Nat.div_self hg]
 unfold lowF Fr.right; dsimp only; rw [e3]; simp only [inw, Bool.and_eq_true, decide_eq_true_eq, beq_self_eq_true, and_true]; clear e3; generalize r / Nat.gcd r d = x at *; generalize d / Nat.gcd r d = y at *; omega
theorem lowF_make {n : Int} {r d : Nat} (h1 : -4503599627370496 <= n) (h2 : n <= 4503599627370496) (hr : r < d) (hd : d <= 9007199254740992) : makeS n r d = (lowF n r d, 0) := by
 unfold makeS; rw [if_neg (by omega)]; exact if_pos (lowF_right h1 h2 hr hd)
theorem lowF_val {n : Int} {r d : Nat} : ((lowF n r d).q * (lowF n r d).d + (lowF n r d).r) * (d : Int) = (n * d + r) * (lowF n r d).d := by
 unfold lowF; dsimp only; have h2 := Nat.div_mul_cancel (Nat.gcd_dvd_left r d); have h3 := Nat.div_mul_cancel (Nat.gcd_dvd_right r d)
 have e : (r / Nat.gcd r d) * d = r * (d / Nat.gcd r d) := by
  generalize r / Nat.gcd r d = x at *; generalize d / Nat.gcd r d = y at *; generalize Nat.gcd r d = g at *; rw [<- h2, <- h3, Nat.mul_assoc, Nat.mul_comm y g]
 have e' : ((r / Nat.gcd r d : Nat) : Int) * (d : Int) = (r : Int) * ((d / Nat.gcd r d : Nat) : Int) := by
  rw [<- Int.natCast_mul, <- Int.natCast_mul, e]
 rw [Int.add_mul, Int.add_mul, e', Int.mul_assoc, Int.mul_assoc, Int.mul_comm ((d / Nat.gcd r d : Nat) : Int) (d : Int)]
theorem cross_md {p q : Pt} {c : Int} (hp : p.far = false) (hq : q.far = false) (hn : noneB p q c = false) :
  ∃ (n : Int) (r : Nat), mdS (tmS (c - p.x) (q.y - p.y)) ((c - p.x).natAbs * (q.y - p.y).natAbs) (q.x - p.x).natAbs (cmpI' (q.x - p.x) 0) = (n, r, 0) /\ makeS (p.y + n) r (crossD p q) = (crossF p q c, 0) /\ (-4503599627370496 <= p.y + n /\ p.y + n <= 4503599627370496) /\ r < crossD p q /\ n = crossX p q c / (crossD p q : Int) /\ (r : Int) = crossX p q c % (crossD p q : Int) := by
 obtain ⟨n, r, e, h⟩ : ∃ n r e, mdS (tmS (c - p.x) (q.y - p.y)) ((c - p.x).natAbs * (q.y - p.y).natAbs) (q.x - p.x).natAbs (cmpI' (q.x - p.x) 0) = (n, r, e) := ⟨_, _, _, rfl⟩
 obtain ⟨f1, f2⟩ := far_false hp; obtain ⟨f3, f4⟩ := far_false hq; obtain ⟨hD, hX⟩ := cross_bd hn; have hc := (noneB_false hn).1; have L := (md_law (d := crossD p q) (x := crossX p q c) (by omega) rfl rfl h).2
 have hb : (q.y - p.y) * (crossD p q : Int) <= 9007199254740992 * (crossD p q : Int) /\ -9007199254740992 * (crossD p q : Int) <= (q.y - p.y) * (crossD p q : Int) :=
  ⟨Int.mul_le_mul_of_nonneg_right (by omega) (by omega), Int.mul_le_mul_of_nonneg_right (by omega) (by omega)⟩
 have hD2 : crossD p q <= 9007199254740992 := by unfold crossD; omega
 obtain ⟨rfl, h2, h3, -⟩ := L (by omega); refine ⟨n, r, h, ?_⟩; have hu := (Int.ediv_emod_unique (a := crossX p q c) (b := (crossD p q : Int)) (q := n) (r := (r : Int)) (by omega)).2 ⟨by rw [Int.mul_comm]; omega, by omega, by omega⟩
 have hnb : -4503599627370496 <= p.y + n /\ p.y + n <= 4503599627370496 := by
  have hq := q_bd (b := q.y - p.y) h2 h3
  rcases hX with ⟨x1, x2⟩ | ⟨x1, x2⟩
  ·have := hq.1 x1 x2; omega
  ·have := hq.2 x1 x2; omega
 refine ⟨?_, hnb, h3, hu.1.symm, hu.2.symm⟩; unfold crossF; rw [hu.1, hu.2, Int.toNat_natCast]; exact lowF_make hnb.1 hnb.2 h3 hD2
theorem cross_is {p q : Pt} {c : Int} (hp : p.far = false) (hq : q.far = false) (hn : noneB p q c = false) :
  (crossF p q c).right = true /\ ((crossF p q c).q * (crossF p q c).d + (crossF p q c).r) * (crossD p q : Int) = (p.y * (crossD p q : Int) + crossX p q c) * (crossF p q c).d := by
 obtain ⟨n, r, -, -, hnb, hr, e1, e2⟩ := cross_md hp hq hn; obtain ⟨f1, f2⟩ := far_false hp; obtain ⟨f3, f4⟩ := far_false hq; have hD2 : crossD p q <= 9007199254740992 := by unfold crossD; omega
 have hdm := Int.mul_ediv_add_emod (crossX p q c) (crossD p q : Int); unfold crossF; rw [<- e1, <- e2] at hdm ⊢; rw [Int.toNat_natCast]; refine ⟨lowF_right hnb.1 hnb.2 hr hD2, ?_⟩; rw [lowF_val, <- hdm, Int.add_mul p.y, Int.mul_comm n, Int.add_assoc]
end Go.Proofs.YteeeeddeacepmaaGreatDoor
namespace Go.Proofs.YteeeeddeacepmaaGreatDoor
set_option maxRecDepth 100000
open Go.RowKit Go.Lib B
structure CrossIn (px py qx qy c : Int) (n m a b d : Int) (r D : Nat) (f : Fr) : Prop where
 ea : IntKind.i64.wrap (c - px) = a
 eb : IntKind.i64.wrap (qy - py) = b
 ed : IntKind.i64.wrap (qx - px) = d
 ia : I64 a
 ib : I64 b
 id : I64 d
 em : IntKind.i64.wrap (py + n) = m
 im : I64 m
 en : IntKind.i64.wrap (-d) = -d
 eD : IntKind.u64.wrap (max d (-d)) = (D : Int)
 hr : r < 18446744073709551616
 hD : D < 18446744073709551616
 hmd : mdS (tmS a b) (a.natAbs * b.natAbs) d.natAbs (cmpI' d 0) = (n, r, 0)
 hmk : makeS m r D = (f, 0)
theorem crossIn {p q : Pt} {c : Int} (hp : p.far = false) (hq : q.far = false) (hn : noneB p q c = false) : ∃ n m a b d r D, CrossIn p.x p.y q.x q.y c n m a b d r D (crossF p q c) := by
 obtain ⟨n, r, h1, h2, h3, h4, -⟩ := cross_md hp hq hn; obtain ⟨f1, f2⟩ := far_false hp; obtain ⟨f3, f4⟩ := far_false hq; obtain ⟨g1, g2, g3⟩ := noneB_false hn; have hD2 : crossD p q <= 9007199254740992 := by unfold crossD; omega
 refine ⟨n, p.y + n, c - p.x, q.y - p.y, q.x - p.x, r, crossD p q, ⟨IntWalk.i64_in _ (by omega), IntWalk.i64_in _ (by omega), IntWalk.i64_in _ (by omega), by constructor <;> omega, by constructor <;> omega, by constructor <;> omega, IntWalk.i64_in _ (by omega), by constructor <;> omega, IntWalk.i64_in _ (by omega), ?_, by omega, by omega, h1, h2⟩⟩; rw [IntWalk.u64_in _ (by omega)]; unfold crossD; omega
set_option maxHeartbeats 8000000 in
theorem cross_any (p q : Pt) (c : Int) (up : Bool) (w : World) {R : Ending -> World -> Prop} (hR : ∀ w' f e, crossS p q c up = (f, e) -> Grow w w' -> R (.returned (.tuple #[.agg f.cells.toArray, .int .i64 e])) w') :
  Calls Tryz.prog 60 #[.agg p.cells.toArray, .agg q.cells.toArray, .int .i64 c, .bool up] w R := by
 have F1 := Lh fun W (R : Ending -> World -> Prop) hR => xfar_any p W (R := R) hR
 have F2 := Lh fun W (R : Ending -> World -> Prop) hR => xfar_any q W (R := R) hR
 have I1 := Lh fun W (R : Ending -> World -> Prop) hR => in_any c W (R := R) hR
 cases hf : (p.far || q.far || !inw c) with
 | true =>
  have HR : Hid (∀ w', Grow w w' -> R (.returned (.tuple #[.agg #[.int .i64 0, .int .u64 0, .int .u64 0], .int .i64 8])) w') := fun w' g => hR w' ⟨0, 0, 0⟩ 8 (by unfold crossS; rw [if_pos hf]) g
  clear hR; obtain ⟨px, py⟩ := p; obtain ⟨qx, qy⟩ := q; unfold Pt.cells at F1 F2 ⊢; dsimp only at F1 F2 ⊢
  obtain ⟨wa, hwa⟩ : ∃ wa, wa = ((w.alloc (.cells #[.int .i64 px, .int .i64 py] 36)).alloc (.cells #[.int .i64 qx, .int .i64 qy] 36)).alloc (.cells #[.int .i64 0, .int .u64 0, .int .u64 0] 27) := ⟨_, rfl⟩
  have K0 : Hid (∀ W, Grow wa W -> W.heap[w.heap.size]? = some (.cells #[.int .i64 px, .int .i64 py] 36 (0, 0))) := fun W h => by
   subst hwa; exact blk_al w _ _ ((((Grow.refl _).al _).al _).tr h)
  have K1 : Hid (∀ W, Grow wa W -> W.heap[w.heap.size + 1]? = some (.cells #[.int .i64 qx, .int .i64 qy] 36 (0, 0))) := fun W h => by
   subst hwa; have := blk_al (w.alloc (.cells #[.int .i64 px, .int .i64 py] 36)) _ _ (((Grow.refl _).al _).tr h)
   rwa [World.size_alloc] at this
  have K2 : Hid (∀ W, Grow wa W -> W.heap[w.heap.size + 1 + 1]? = some (.cells #[.int .i64 0, .int .u64 0, .int .u64 0] 27 (0, 0))) := fun W h => by
   subst hwa; have := blk_al _ _ _ h
   rwa [World.size_alloc, World.size_alloc] at this
  have GX : Hid (Grow w wa) := by subst hwa; exact (((Grow.refl w).al _).al _).al _
  cases hp : Pt.far ⟨px, py⟩ with
  | true =>
   rw [hp] at F1; clear hp hf; go_enter Tryz.func60, Tryz.ntmps60
   go_wp2_with fail
   rw [<- hwa]; clear hwa; go_at_call 98; refine F1.out _ _ ?_; intro w1 hg1; have G1 := Lh hg1; clear hg1; have z0 := cell_of_row _ w.heap.size 0 _ _ (0, 0) (K0.out _ G1.out); have z1 := cell_of_row _ w.heap.size 1 _ _ (0, 0) (K0.out _ G1.out); have y0 := cell_of_row _ (w.heap.size + 1) 0 _ _ (0, 0) (K1.out _ G1.out); have y1 := cell_of_row _ (w.heap.size + 1) 1 _ _ (0, 0) (K1.out _ G1.out); clear z0 z1 y0 y1; have hb := K2.out _ G1.out; have c0 := cell_of_row _ (w.heap.size + 1 + 1) 0 _ _ (0, 0) hb; have f0 := frozen_of_row _ (w.heap.size + 1 + 1) 0 _ _ hb
   have b1 := blk_set hb 0 (.int .i64 0); have c1 := cell_of_row _ (w.heap.size + 1 + 1) 1 _ _ (0, 0) b1; have f1 := frozen_of_row _ (w.heap.size + 1 + 1) 1 _ _ b1; have b2 := blk_set b1 1 (.int .u64 0); have c2 := cell_of_row _ (w.heap.size + 1 + 1) 2 _ _ (0, 0) b2; have f2 := frozen_of_row _ (w.heap.size + 1 + 1) 2 _ _ b2; have b3 := blk_set b2 2 (.int .u64 0); have r0 := cell_of_row _ (w.heap.size + 1 + 1) 0 _ _ (0, 0) b3; have r1 := cell_of_row _ (w.heap.size + 1 + 1) 1 _ _ (0, 0) b3; have r2 := cell_of_row _ (w.heap.size + 1 + 1) 2 _ _ (0, 0) b3
   simp only [sA, sZ, sS] at c0 c1 c2 r0 r1 r2; clear b1 b2 b3; clear hb; go_wp2; refine bodyPost_ret (v := .tuple #[.agg #[.int .i64 0, .int .u64 0, .int .u64 0], .int .i64 8]) (by simp [results, Tryz.f60, go_sem, r0, r1, r2]) rfl (HR.out _ ?_); exact grow_set3 (by omega) (GX.out.tr G1.out) _ _ _
  | false =>
   rw [hp] at F1 hf
   cases hq : Pt.far ⟨qx, qy⟩ with
   | true =>
    rw [hq] at F2; clear hp hq hf; go_enter Tryz.func60, Tryz.ntmps60
    go_wp2_with fail
    rw [<- hwa]; clear hwa; go_at_call 98; refine F1.out _ _ ?_; intro w1 hg1; have G1 := Lh hg1; clear hg1; have z0 := cell_of_row _ w.heap.size 0 _ _ (0, 0) (K0.out _ G1.out); have z1 := cell_of_row _ w.heap.size 1 _ _ (0, 0) (K0.out _ G1.out); have y0 := cell_of_row _ (w.heap.size + 1) 0 _ _ (0, 0) (K1.out _ G1.out); have y1 := cell_of_row _ (w.heap.size + 1) 1 _ _ (0, 0) (K1.out _ G1.out); go_wp2_with fail
    clear z0 z1 y0 y1; go_at_call 98; refine F2.out _ _ ?_; intro w2 hg2; have G2 := Lh (G1.out.tr hg2); clear hg2; have z0 := cell_of_row _ w.heap.size 0 _ _ (0, 0) (K0.out _ G2.out); have z1 := cell_of_row _ w.heap.size 1 _ _ (0, 0) (K0.out _ G2.out); have y0 := cell_of_row _ (w.heap.size + 1) 0 _ _ (0, 0) (K1.out _ G2.out); have y1 := cell_of_row _ (w.heap.size + 1) 1 _ _ (0, 0) (K1.out _ G2.out); clear z0 z1 y0 y1; have hb := K2.out _ G2.out; have c0 := cell_of_row _ (w.heap.size + 1 + 1) 0 _ _ (0, 0) hb; have f0 := frozen_of_row _ (w.heap.size + 1 + 1) 0 _ _ hb
    have b1 := blk_set hb 0 (.int .i64 0); have c1 := cell_of_row _ (w.heap.size + 1 + 1) 1 _ _ (0, 0) b1; have f1 := frozen_of_row _ (w.heap.size + 1 + 1) 1 _ _ b1; have b2 := blk_set b1 1 (.int .u64 0); have c2 := cell_of_row _ (w.heap.size + 1 + 1) 2 _ _ (0, 0) b2; have f2 := frozen_of_row _ (w.heap.size + 1 + 1) 2 _ _ b2; have b3 := blk_set b2 2 (.int .u64 0); have r0 := cell_of_row _ (w.heap.size + 1 + 1) 0 _ _ (0, 0) b3; have r1 := cell_of_row _ (w.heap.size + 1 + 1) 1 _ _ (0, 0) b3; have r2 := cell_of_row _ (w.heap.size + 1 + 1) 2 _ _ (0, 0) b3
    simp only [sA, sZ, sS] at c0 c1 c2 r0 r1 r2; clear b1 b2 b3; clear hb; go_wp2; refine bodyPost_ret (v := .tuple #[.agg #[.int .i64 0, .int .u64 0, .int .u64 0], .int .i64 8]) (by simp [results, Tryz.f60, go_sem, r0, r1, r2]) rfl (HR.out _ ?_); exact grow_set3 (by omega) (GX.out.tr G2.out) _ _ _
   | false =>
    rw [hq] at F2 hf; have hc : inw c = false := by simpa using hf
    rw [hc] at I1; clear hp hq hf hc; go_enter Tryz.func60, Tryz.ntmps60
    go_wp2_with fail
    rw [<- hwa]; clear hwa; go_at_call 98; refine F1.out _ _ ?_; intro w1 hg1; have G1 := Lh hg1; clear hg1; have z0 := cell_of_row _ w.heap.size 0 _ _ (0, 0) (K0.out _ G1.out); have z1 := cell_of_row _ w.heap.size 1 _ _ (0, 0) (K0.out _ G1.out); have y0 := cell_of_row _ (w.heap.size + 1) 0 _ _ (0, 0) (K1.out _ G1.out); have y1 := cell_of_row _ (w.heap.size + 1) 1 _ _ (0, 0) (K1.out _ G1.out); go_wp2_with fail
    clear z0 z1 y0 y1; go_at_call 98; refine F2.out _ _ ?_; intro w2 hg2; have G2 := Lh (G1.out.tr hg2); clear hg2; have z0 := cell_of_row _ w.heap.size 0 _ _ (0, 0) (K0.out _ G2.out); have z1 := cell_of_row _ w.heap.size 1 _ _ (0, 0) (K0.out _ G2.out); have y0 := cell_of_row _ (w.heap.size + 1) 0 _ _ (0, 0) (K1.out _ G2.out); have y1 := cell_of_row _ (w.heap.size + 1) 1 _ _ (0, 0) (K1.out _ G2.out); go_wp2_with fail
    clear z0 z1 y0 y1; go_at_call 99; refine I1.out _ _ ?_; have hb := K2.out _ G2.out; have c0 := cell_of_row _ (w.heap.size + 1 + 1) 0 _ _ (0, 0) hb; have f0 := frozen_of_row _ (w.heap.size + 1 + 1) 0 _ _ hb; have b1 := blk_set hb 0 (.int .i64 0); have c1 := cell_of_row _ (w.heap.size + 1 + 1) 1 _ _ (0, 0) b1; have f1 := frozen_of_row _ (w.heap.size + 1 + 1) 1 _ _ b1; have b2 := blk_set b1 1 (.int .u64 0); have c2 := cell_of_row _ (w.heap.size + 1 + 1) 2 _ _ (0, 0) b2; have f2 := frozen_of_row _ (w.heap.size + 1 + 1) 2 _ _ b2; have b3 := blk_set b2 2 (.int .u64 0)
    have r0 := cell_of_row _ (w.heap.size + 1 + 1) 0 _ _ (0, 0) b3; have r1 := cell_of_row _ (w.heap.size + 1 + 1) 1 _ _ (0, 0) b3; have r2 := cell_of_row _ (w.heap.size + 1 + 1) 2 _ _ (0, 0) b3; simp only [sA, sZ, sS] at c0 c1 c2 r0 r1 r2; clear b1 b2 b3; clear hb; go_wp2; refine bodyPost_ret (v := .tuple #[.agg #[.int .i64 0, .int .u64 0, .int .u64 0], .int .i64 8]) (by simp [results, Tryz.f60, go_sem, r0, r1, r2]) rfl (HR.out _ ?_); exact grow_set3 (by omega) (GX.out.tr G2.out) _ _ _
 | false =>
  simp only [Bool.or_eq_false_iff, Bool.not_eq_false'] at hf; obtain ⟨⟨hp, hq⟩, hc⟩ := hf; rw [hp] at F1; rw [hq] at F2; rw [hc] at I1
  cases up with
  | false =>
   have IN := Lh fun h => crossIn (c := c) hp hq h
   have HR : Hid (∀ w' f e, crossC p q c = (f, e) -> Grow w w' -> R (.returned (.tuple #[.agg f.cells.toArray, .int .i64 e])) w') := fun w' f e h g => hR w' f e (by unfold crossS; rw [hp, hq, hc]; exact h) g
   clear hR hp hq hc; obtain ⟨px, py⟩ := p; obtain ⟨qx, qy⟩ := q; unfold Pt.cells at F1 F2 ⊢; dsimp only at F1 F2 IN ⊢
   obtain ⟨wa, hwa⟩ : ∃ wa, wa = ((w.alloc (.cells #[.int .i64 px, .int .i64 py] 36)).alloc (.cells #[.int .i64 qx, .int .i64 qy] 36)).alloc (.cells #[.int .i64 0, .int .u64 0, .int .u64 0] 27) := ⟨_, rfl⟩
   have K0 : Hid (∀ W, Grow wa W -> W.heap[w.heap.size]? = some (.cells #[.int .i64 px, .int .i64 py] 36 (0, 0))) := fun W h => by
    subst hwa; exact blk_al w _ _ ((((Grow.refl _).al _).al _).tr h)
   have K1 : Hid (∀ W, Grow wa W -> W.heap[w.heap.size + 1]? = some (.cells #[.int .i64 qx, .int .i64 qy] 36 (0, 0))) := fun W h => by
    subst hwa; have := blk_al (w.alloc (.cells #[.int .i64 px, .int .i64 py] 36)) _ _ (((Grow.refl _).al _).tr h)
    rwa [World.size_alloc] at this
   have K2 : Hid (∀ W, Grow wa W -> W.heap[w.heap.size + 1 + 1]? = some (.cells #[.int .i64 0, .int .u64 0, .int .u64 0] 27 (0, 0))) := fun W h => by
    subst hwa; have := blk_al _ _ _ h
    rwa [World.size_alloc, World.size_alloc] at this
   have GX : Hid (Grow w wa) := by subst hwa; exact (((Grow.refl w).al _).al _).al _
   go_enter Tryz.func60, Tryz.ntmps60
   go_wp2_with fail
   rw [<- hwa]; clear hwa; go_at_call 98; refine F1.out _ _ ?_; intro w1 hg1; have G1 := Lh hg1; clear hg1; have z0 := cell_of_row _ w.heap.size 0 _ _ (0, 0) (K0.out _ G1.out); have z1 := cell_of_row _ w.heap.size 1 _ _ (0, 0) (K0.out _ G1.out); have y0 := cell_of_row _ (w.heap.size + 1) 0 _ _ (0, 0) (K1.out _ G1.out); have y1 := cell_of_row _ (w.heap.size + 1) 1 _ _ (0, 0) (K1.out _ G1.out); go_wp2_with fail
   clear z0 z1 y0 y1; go_at_call 98; refine F2.out _ _ ?_; intro w2 hg2; have G2 := Lh (G1.out.tr hg2); clear hg2; have z0 := cell_of_row _ w.heap.size 0 _ _ (0, 0) (K0.out _ G2.out); have z1 := cell_of_row _ w.heap.size 1 _ _ (0, 0) (K0.out _ G2.out); have y0 := cell_of_row _ (w.heap.size + 1) 0 _ _ (0, 0) (K1.out _ G2.out); have y1 := cell_of_row _ (w.heap.size + 1) 1 _ _ (0, 0) (K1.out _ G2.out); go_wp2_with fail
   clear z0 z1 y0 y1; go_at_call 99; refine I1.out _ _ ?_; have K0 := Lh fun W h => K0.out W (G2.out.tr h)
   have K1 := Lh fun W h => K1.out W (G2.out.tr h)
   have K2 := Lh fun W h => K2.out W (G2.out.tr h)
   have GX := Lh (GX.out.tr G2.out); clear G1 G2 F1 F2 I1
   cases hn : noneB ⟨px, py⟩ ⟨qx, qy⟩ c with
   | true =>
    have HR : Hid (∀ w', Grow w w' -> R (.returned (.tuple #[.agg #[.int .i64 0, .int .u64 0, .int .u64 0], .int .i64 6])) w') := fun w' g => HR.out w' ⟨0, 0, 0⟩ 6 (by unfold crossC; rw [if_pos hn]) g
    by_cases h1 : px = qx
    ·have t1 : (px == qx) = true := by rw [beq_iff_eq]; exact h1
     clear h1 hn IN; have z0 := cell_of_row _ w.heap.size 0 _ _ (0, 0) (K0.out _ (Grow.refl _)); have z1 := cell_of_row _ w.heap.size 1 _ _ (0, 0) (K0.out _ (Grow.refl _)); have y0 := cell_of_row _ (w.heap.size + 1) 0 _ _ (0, 0) (K1.out _ (Grow.refl _)); have y1 := cell_of_row _ (w.heap.size + 1) 1 _ _ (0, 0) (K1.out _ (Grow.refl _)); have hb := K2.out _ (Grow.refl _); have c0 := cell_of_row _ (w.heap.size + 1 + 1) 0 _ _ (0, 0) hb; have f0 := frozen_of_row _ (w.heap.size + 1 + 1) 0 _ _ hb; have b1 := blk_set hb 0 (.int .i64 0); have c1 := cell_of_row _ (w.heap.size + 1 + 1) 1 _ _ (0, 0) b1
     have f1 := frozen_of_row _ (w.heap.size + 1 + 1) 1 _ _ b1; have b2 := blk_set b1 1 (.int .u64 0); have c2 := cell_of_row _ (w.heap.size + 1 + 1) 2 _ _ (0, 0) b2; have f2 := frozen_of_row _ (w.heap.size + 1 + 1) 2 _ _ b2; have b3 := blk_set b2 2 (.int .u64 0); have r0 := cell_of_row _ (w.heap.size + 1 + 1) 0 _ _ (0, 0) b3; have r1 := cell_of_row _ (w.heap.size + 1 + 1) 1 _ _ (0, 0) b3; have r2 := cell_of_row _ (w.heap.size + 1 + 1) 2 _ _ (0, 0) b3; simp only [sA, sZ, sS] at c0 c1 c2 r0 r1 r2; clear b1 b2 b3; clear hb; go_wp2
     refine bodyPost_ret (v := .tuple #[.agg #[.int .i64 0, .int .u64 0, .int .u64 0], .int .i64 6]) (by simp [results, Tryz.f60, go_sem, r0, r1, r2]) rfl (HR.out _ ?_); exact grow_set3 (by omega) (GX.out.tr (Grow.refl _)) _ _ _
    ·have t1 : (px == qx) = false := by rw [beq_eq_false_iff_ne]; exact h1
     by_cases h2 : c < min px qx
     ·have t2 : decide (c < min px qx) = true := decide_eq_true h2
      clear h1 h2 hn IN; have z0 := cell_of_row _ w.heap.size 0 _ _ (0, 0) (K0.out _ (Grow.refl _)); have z1 := cell_of_row _ w.heap.size 1 _ _ (0, 0) (K0.out _ (Grow.refl _)); have y0 := cell_of_row _ (w.heap.size + 1) 0 _ _ (0, 0) (K1.out _ (Grow.refl _)); have y1 := cell_of_row _ (w.heap.size + 1) 1 _ _ (0, 0) (K1.out _ (Grow.refl _)); have hb := K2.out _ (Grow.refl _); have c0 := cell_of_row _ (w.heap.size + 1 + 1) 0 _ _ (0, 0) hb; have f0 := frozen_of_row _ (w.heap.size + 1 + 1) 0 _ _ hb; have b1 := blk_set hb 0 (.int .i64 0); have c1 := cell_of_row _ (w.heap.size + 1 + 1) 1 _ _ (0, 0) b1
      have f1 := frozen_of_row _ (w.heap.size + 1 + 1) 1 _ _ b1; have b2 := blk_set b1 1 (.int .u64 0); have c2 := cell_of_row _ (w.heap.size + 1 + 1) 2 _ _ (0, 0) b2; have f2 := frozen_of_row _ (w.heap.size + 1 + 1) 2 _ _ b2; have b3 := blk_set b2 2 (.int .u64 0); have r0 := cell_of_row _ (w.heap.size + 1 + 1) 0 _ _ (0, 0) b3; have r1 := cell_of_row _ (w.heap.size + 1 + 1) 1 _ _ (0, 0) b3; have r2 := cell_of_row _ (w.heap.size + 1 + 1) 2 _ _ (0, 0) b3; simp only [sA, sZ, sS] at c0 c1 c2 r0 r1 r2; clear b1 b2 b3; clear hb; go_wp2
      refine bodyPost_ret (v := .tuple #[.agg #[.int .i64 0, .int .u64 0, .int .u64 0], .int .i64 6]) (by simp [results, Tryz.f60, go_sem, r0, r1, r2]) rfl (HR.out _ ?_); exact grow_set3 (by omega) (GX.out.tr (Grow.refl _)) _ _ _
     ·have t2 : decide (c < min px qx) = false := decide_eq_false h2
      have t3 : decide (max px qx < c) = true := by
       simp only [noneB, Bool.or_eq_true, decide_eq_true_eq] at hn; exact decide_eq_true (hn.resolve_left fun h => h.elim h1 h2)
      clear h1 h2 hn IN; have z0 := cell_of_row _ w.heap.size 0 _ _ (0, 0) (K0.out _ (Grow.refl _)); have z1 := cell_of_row _ w.heap.size 1 _ _ (0, 0) (K0.out _ (Grow.refl _)); have y0 := cell_of_row _ (w.heap.size + 1) 0 _ _ (0, 0) (K1.out _ (Grow.refl _)); have y1 := cell_of_row _ (w.heap.size + 1) 1 _ _ (0, 0) (K1.out _ (Grow.refl _)); have hb := K2.out _ (Grow.refl _); have c0 := cell_of_row _ (w.heap.size + 1 + 1) 0 _ _ (0, 0) hb; have f0 := frozen_of_row _ (w.heap.size + 1 + 1) 0 _ _ hb; have b1 := blk_set hb 0 (.int .i64 0); have c1 := cell_of_row _ (w.heap.size + 1 + 1) 1 _ _ (0, 0) b1
      have f1 := frozen_of_row _ (w.heap.size + 1 + 1) 1 _ _ b1; have b2 := blk_set b1 1 (.int .u64 0); have c2 := cell_of_row _ (w.heap.size + 1 + 1) 2 _ _ (0, 0) b2; have f2 := frozen_of_row _ (w.heap.size + 1 + 1) 2 _ _ b2; have b3 := blk_set b2 2 (.int .u64 0); have r0 := cell_of_row _ (w.heap.size + 1 + 1) 0 _ _ (0, 0) b3; have r1 := cell_of_row _ (w.heap.size + 1 + 1) 1 _ _ (0, 0) b3; have r2 := cell_of_row _ (w.heap.size + 1 + 1) 2 _ _ (0, 0) b3; simp only [sA, sZ, sS] at c0 c1 c2 r0 r1 r2; clear b1 b2 b3; clear hb; go_wp2
      refine bodyPost_ret (v := .tuple #[.agg #[.int .i64 0, .int .u64 0, .int .u64 0], .int .i64 6]) (by simp [results, Tryz.f60, go_sem, r0, r1, r2]) rfl (HR.out _ ?_); exact grow_set3 (by omega) (GX.out.tr (Grow.refl _)) _ _ _
   | false =>
    obtain ⟨h1, h2, h3⟩ := noneB_false hn; have t1 : (px == qx) = false := by rw [beq_eq_false_iff_ne]; exact h1
    have t2 : decide (c < min px qx) = false := decide_eq_false (by dsimp only at h2; omega); have t3 : decide (max px qx < c) = false := decide_eq_false (by dsimp only at h3; omega); obtain ⟨n, m, a, b, d, r, D, hin⟩ := IN.out hn
    obtain ⟨⟨fq, fr, fd⟩, hf⟩ : ∃ f, crossF ⟨px, py⟩ ⟨qx, qy⟩ c = f := ⟨_, rfl⟩
    rw [hf] at hin; have HR : Hid (∀ w', Grow w w' -> R (.returned (.tuple #[.agg #[.int .i64 fq, .int .u64 fr, .int .u64 fd], .int .i64 0])) w') := fun w' g => HR.out w' ⟨fq, fr, fd⟩ 0 (by unfold crossC; rw [hn, hf]; rfl) g
    clear h1 h2 h3 hn hf IN; obtain ⟨ea, eb, ed, ia, ib, id, em, im, en, eD, hr, hD, md, mk⟩ := hin
    try dsimp only at ea eb ed em
    have MD := Lh fun W (R : Ending -> World -> Prop) hR => mulDiv_any a b d ia ib id W (R := R) hR
    rw [md] at MD
    have MK : Hid (∀ W (R : Ending -> World -> Prop), (∀ w', Grow W w' -> R (.returned (.tuple #[.agg #[.int .i64 fq, .int .u64 fr, .int .u64 fd], .int .i64 0])) w') -> Calls Tryz.prog 101 #[.int .i64 m, .int .u64 r, .int .u64 D] W R) := fun W R hR => by
     refine make_any m r D W im hr hD ?_; intro w' f e h hg; rw [mk] at h; simp only [Prod.mk.injEq] at h; obtain ⟨rfl, rfl⟩ := h; exact hR w' hg
    clear ia ib id im hr hD md mk; have z0 := cell_of_row _ w.heap.size 0 _ _ (0, 0) (K0.out _ (Grow.refl _)); have z1 := cell_of_row _ w.heap.size 1 _ _ (0, 0) (K0.out _ (Grow.refl _)); have y0 := cell_of_row _ (w.heap.size + 1) 0 _ _ (0, 0) (K1.out _ (Grow.refl _)); have y1 := cell_of_row _ (w.heap.size + 1) 1 _ _ (0, 0) (K1.out _ (Grow.refl _)); go_wp2_with fail
    clear z0 z1 y0 y1 t1 t2 t3; go_at_call 100; refine MD.out _ _ ?_; intro w4 n' r' e' hg4 h; simp only [Prod.mk.injEq] at h; obtain ⟨rfl, rfl, rfl⟩ := h; have G4 := Lh hg4; clear hg4; have z0 := cell_of_row _ w.heap.size 0 _ _ (0, 0) (K0.out _ G4.out); have z1 := cell_of_row _ w.heap.size 1 _ _ (0, 0) (K0.out _ G4.out); have y0 := cell_of_row _ (w.heap.size + 1) 0 _ _ (0, 0) (K1.out _ G4.out); have y1 := cell_of_row _ (w.heap.size + 1) 1 _ _ (0, 0) (K1.out _ G4.out); go_wp2_with fail
    clear z0 z1 y0 y1 ea eb ed em en eD; go_at_call 101; refine MK.out _ _ ?_; intro w5 hg5; have G5 := Lh (G4.out.tr hg5); clear hg5; have hb := K2.out _ G5.out; have c0 := cell_of_row _ (w.heap.size + 1 + 1) 0 _ _ (0, 0) hb; have f0 := frozen_of_row _ (w.heap.size + 1 + 1) 0 _ _ hb; have b1 := blk_set hb 0 (.int .i64 fq); have c1 := cell_of_row _ (w.heap.size + 1 + 1) 1 _ _ (0, 0) b1; have f1 := frozen_of_row _ (w.heap.size + 1 + 1) 1 _ _ b1; have b2 := blk_set b1 1 (.int .u64 fr); have c2 := cell_of_row _ (w.heap.size + 1 + 1) 2 _ _ (0, 0) b2
    have f2 := frozen_of_row _ (w.heap.size + 1 + 1) 2 _ _ b2; have b3 := blk_set b2 2 (.int .u64 fd); have r0 := cell_of_row _ (w.heap.size + 1 + 1) 0 _ _ (0, 0) b3; have r1 := cell_of_row _ (w.heap.size + 1 + 1) 1 _ _ (0, 0) b3; have r2 := cell_of_row _ (w.heap.size + 1 + 1) 2 _ _ (0, 0) b3; simp only [sA, sZ, sS] at c0 c1 c2 r0 r1 r2; clear b1 b2 b3; clear hb; go_wp2; refine bodyPost_ret (v := .tuple #[.agg #[.int .i64 fq, .int .u64 fr, .int .u64 fd], .int .i64 0]) (by simp [results, Tryz.f60, go_sem, r0, r1, r2]) rfl (HR.out _ ?_)
    exact grow_set3 (by omega) (GX.out.tr G5.out) _ _ _
  | true =>
   have IN := Lh fun h => crossIn (p := p.swap) (q := q.swap) (c := c) (by rw [Pt.swap_far]; exact hp) (by rw [Pt.swap_far]; exact hq) h
   have HR : Hid (∀ w' f e, crossC p.swap q.swap c = (f, e) -> Grow w w' -> R (.returned (.tuple #[.agg f.cells.toArray, .int .i64 e])) w') := fun w' f e h g => hR w' f e (by unfold crossS; rw [hp, hq, hc]; exact h) g
   clear hR hp hq hc; obtain ⟨px, py⟩ := p; obtain ⟨qx, qy⟩ := q; unfold Pt.cells at F1 F2 ⊢; unfold Pt.swap at IN HR; dsimp only at F1 F2 IN HR ⊢
   obtain ⟨wa, hwa⟩ : ∃ wa, wa = ((w.alloc (.cells #[.int .i64 px, .int .i64 py] 36)).alloc (.cells #[.int .i64 qx, .int .i64 qy] 36)).alloc (.cells #[.int .i64 0, .int .u64 0, .int .u64 0] 27) := ⟨_, rfl⟩
   have K0 : Hid (∀ W, Grow wa W -> W.heap[w.heap.size]? = some (.cells #[.int .i64 px, .int .i64 py] 36 (0, 0))) := fun W h => by
    subst hwa; exact blk_al w _ _ ((((Grow.refl _).al _).al _).tr h)
   have K1 : Hid (∀ W, Grow wa W -> W.heap[w.heap.size + 1]? = some (.cells #[.int .i64 qx, .int .i64 qy] 36 (0, 0))) := fun W h => by
    subst hwa; have := blk_al (w.alloc (.cells #[.int .i64 px, .int .i64 py] 36)) _ _ (((Grow.refl _).al _).tr h)
    rwa [World.size_alloc] at this
   have K2 : Hid (∀ W, Grow wa W -> W.heap[w.heap.size + 1 + 1]? = some (.cells #[.int .i64 0, .int .u64 0, .int .u64 0] 27 (0, 0))) := fun W h => by
    subst hwa; have := blk_al _ _ _ h
    rwa [World.size_alloc, World.size_alloc] at this
   have GX : Hid (Grow w wa) := by subst hwa; exact (((Grow.refl w).al _).al _).al _
   go_enter Tryz.func60, Tryz.ntmps60
   go_wp2_with fail
   rw [<- hwa]; clear hwa; go_at_call 98; refine F1.out _ _ ?_; intro w1 hg1; have G1 := Lh hg1; clear hg1; have z0 := cell_of_row _ w.heap.size 0 _ _ (0, 0) (K0.out _ G1.out); have z1 := cell_of_row _ w.heap.size 1 _ _ (0, 0) (K0.out _ G1.out); have y0 := cell_of_row _ (w.heap.size + 1) 0 _ _ (0, 0) (K1.out _ G1.out); have y1 := cell_of_row _ (w.heap.size + 1) 1 _ _ (0, 0) (K1.out _ G1.out); go_wp2_with fail
   clear z0 z1 y0 y1; go_at_call 98; refine F2.out _ _ ?_; intro w2 hg2; have G2 := Lh (G1.out.tr hg2); clear hg2; have z0 := cell_of_row _ w.heap.size 0 _ _ (0, 0) (K0.out _ G2.out); have z1 := cell_of_row _ w.heap.size 1 _ _ (0, 0) (K0.out _ G2.out); have y0 := cell_of_row _ (w.heap.size + 1) 0 _ _ (0, 0) (K1.out _ G2.out); have y1 := cell_of_row _ (w.heap.size + 1) 1 _ _ (0, 0) (K1.out _ G2.out); go_wp2_with fail
   clear z0 z1 y0 y1; go_at_call 99; refine I1.out _ _ ?_; have kp := K0.out _ G2.out; have kq := K1.out _ G2.out; have z0 := cell_of_row _ w.heap.size 0 _ _ (0, 0) kp; have z1 := cell_of_row _ w.heap.size 1 _ _ (0, 0) kp; have y0 := cell_of_row _ (w.heap.size + 1) 0 _ _ (0, 0) kq; have y1 := cell_of_row _ (w.heap.size + 1) 1 _ _ (0, 0) kq; have zf0 := frozen_of_row _ w.heap.size 0 _ _ kp; have zf1 := frozen_of_row _ w.heap.size 1 _ _ kp; have yf0 := frozen_of_row _ (w.heap.size + 1) 0 _ _ kq; have yf1 := frozen_of_row _ (w.heap.size + 1) 1 _ _ kq; clear kp kq; go_wp2_with fail
   go_region
   obtain ⟨w3, hw3⟩ : ∃ w3, w3 = (st2 (st2 w2 w.heap.size (.int .i64 py) (.int .i64 px)) (w.heap.size + 1) (.int .i64 qy) (.int .i64 qx)).drew := ⟨_, rfl⟩
   have K0 : Hid (∀ W, Grow w3 W -> W.heap[w.heap.size]? = some (.cells #[.int .i64 py, .int .i64 px] 36 (0, 0))) := fun W h => by
    subst hw3; exact grow_blk h ((st2_other (by omega) _ _).trans (st2_same (K0.out _ G2.out) _ _))
   have K1 : Hid (∀ W, Grow w3 W -> W.heap[w.heap.size + 1]? = some (.cells #[.int .i64 qy, .int .i64 qx] 36 (0, 0))) := fun W h => by
    subst hw3; exact grow_blk h (st2_same ((st2_other (by omega) _ _).trans (K1.out _ G2.out)) _ _)
   have K2 : Hid (∀ W, Grow w3 W -> W.heap[w.heap.size + 1 + 1]? = some (.cells #[.int .i64 0, .int .u64 0, .int .u64 0] 27 (0, 0))) := fun W h => by
    subst hw3; exact grow_blk h ((st2_other (by omega) _ _).trans ((st2_other (by omega) _ _).trans (K2.out _ G2.out)))
   have GX : Hid (Grow w w3) := by
    subst hw3; exact (((GX.out.tr G2.out).st2 (by omega) _ _).st2 (by omega) _ _).dr
   simp only [st2] at hw3; rw [<- hw3]; clear hw3 G1 G2 F1 F2 I1 z0 z1 y0 y1 zf0 zf1 yf0 yf1
   cases hn : noneB ⟨py, px⟩ ⟨qy, qx⟩ c with
   | true =>
    have HR : Hid (∀ w', Grow w w' -> R (.returned (.tuple #[.agg #[.int .i64 0, .int .u64 0, .int .u64 0], .int .i64 6])) w') := fun w' g => HR.out w' ⟨0, 0, 0⟩ 6 (by unfold crossC; rw [if_pos hn]) g
    by_cases h1 : py = qy
    ·have t1 : (py == qy) = true := by rw [beq_iff_eq]; exact h1
     clear h1 hn IN; have z0 := cell_of_row _ w.heap.size 0 _ _ (0, 0) (K0.out _ (Grow.refl _)); have z1 := cell_of_row _ w.heap.size 1 _ _ (0, 0) (K0.out _ (Grow.refl _)); have y0 := cell_of_row _ (w.heap.size + 1) 0 _ _ (0, 0) (K1.out _ (Grow.refl _)); have y1 := cell_of_row _ (w.heap.size + 1) 1 _ _ (0, 0) (K1.out _ (Grow.refl _)); have hb := K2.out _ (Grow.refl _); have c0 := cell_of_row _ (w.heap.size + 1 + 1) 0 _ _ (0, 0) hb; have f0 := frozen_of_row _ (w.heap.size + 1 + 1) 0 _ _ hb; have b1 := blk_set hb 0 (.int .i64 0); have c1 := cell_of_row _ (w.heap.size + 1 + 1) 1 _ _ (0, 0) b1
     have f1 := frozen_of_row _ (w.heap.size + 1 + 1) 1 _ _ b1; have b2 := blk_set b1 1 (.int .u64 0); have c2 := cell_of_row _ (w.heap.size + 1 + 1) 2 _ _ (0, 0) b2; have f2 := frozen_of_row _ (w.heap.size + 1 + 1) 2 _ _ b2; have b3 := blk_set b2 2 (.int .u64 0); have r0 := cell_of_row _ (w.heap.size + 1 + 1) 0 _ _ (0, 0) b3; have r1 := cell_of_row _ (w.heap.size + 1 + 1) 1 _ _ (0, 0) b3; have r2 := cell_of_row _ (w.heap.size + 1 + 1) 2 _ _ (0, 0) b3; simp only [sA, sZ, sS] at c0 c1 c2 r0 r1 r2; clear b1 b2 b3; clear hb; go_wp2
     refine bodyPost_ret (v := .tuple #[.agg #[.int .i64 0, .int .u64 0, .int .u64 0], .int .i64 6]) (by simp [results, Tryz.f60, go_sem, r0, r1, r2]) rfl (HR.out _ ?_); exact grow_set3 (by omega) (GX.out.tr (Grow.refl _)) _ _ _
    ·have t1 : (py == qy) = false := by rw [beq_eq_false_iff_ne]; exact h1
     by_cases h2 : c < min py qy
     ·have t2 : decide (c < min py qy) = true := decide_eq_true h2
      clear h1 h2 hn IN; have z0 := cell_of_row _ w.heap.size 0 _ _ (0, 0) (K0.out _ (Grow.refl _)); have z1 := cell_of_row _ w.heap.size 1 _ _ (0, 0) (K0.out _ (Grow.refl _)); have y0 := cell_of_row _ (w.heap.size + 1) 0 _ _ (0, 0) (K1.out _ (Grow.refl _)); have y1 := cell_of_row _ (w.heap.size + 1) 1 _ _ (0, 0) (K1.out _ (Grow.refl _)); have hb := K2.out _ (Grow.refl _); have c0 := cell_of_row _ (w.heap.size + 1 + 1) 0 _ _ (0, 0) hb; have f0 := frozen_of_row _ (w.heap.size + 1 + 1) 0 _ _ hb; have b1 := blk_set hb 0 (.int .i64 0); have c1 := cell_of_row _ (w.heap.size + 1 + 1) 1 _ _ (0, 0) b1
      have f1 := frozen_of_row _ (w.heap.size + 1 + 1) 1 _ _ b1; have b2 := blk_set b1 1 (.int .u64 0); have c2 := cell_of_row _ (w.heap.size + 1 + 1) 2 _ _ (0, 0) b2; have f2 := frozen_of_row _ (w.heap.size + 1 + 1) 2 _ _ b2; have b3 := blk_set b2 2 (.int .u64 0); have r0 := cell_of_row _ (w.heap.size + 1 + 1) 0 _ _ (0, 0) b3; have r1 := cell_of_row _ (w.heap.size + 1 + 1) 1 _ _ (0, 0) b3; have r2 := cell_of_row _ (w.heap.size + 1 + 1) 2 _ _ (0, 0) b3; simp only [sA, sZ, sS] at c0 c1 c2 r0 r1 r2; clear b1 b2 b3; clear hb; go_wp2
      refine bodyPost_ret (v := .tuple #[.agg #[.int .i64 0, .int .u64 0, .int .u64 0], .int .i64 6]) (by simp [results, Tryz.f60, go_sem, r0, r1, r2]) rfl (HR.out _ ?_); exact grow_set3 (by omega) (GX.out.tr (Grow.refl _)) _ _ _
     ·have t2 : decide (c < min py qy) = false := decide_eq_false h2
      have t3 : decide (max py qy < c) = true := by
       simp only [noneB, Bool.or_eq_true, decide_eq_true_eq] at hn; exact decide_eq_true (hn.resolve_left fun h => h.elim h1 h2)
      clear h1 h2 hn IN; have z0 := cell_of_row _ w.heap.size 0 _ _ (0, 0) (K0.out _ (Grow.refl _)); have z1 := cell_of_row _ w.heap.size 1 _ _ (0, 0) (K0.out _ (Grow.refl _)); have y0 := cell_of_row _ (w.heap.size + 1) 0 _ _ (0, 0) (K1.out _ (Grow.refl _)); have y1 := cell_of_row _ (w.heap.size + 1) 1 _ _ (0, 0) (K1.out _ (Grow.refl _)); have hb := K2.out _ (Grow.refl _); have c0 := cell_of_row _ (w.heap.size + 1 + 1) 0 _ _ (0, 0) hb; have f0 := frozen_of_row _ (w.heap.size + 1 + 1) 0 _ _ hb; have b1 := blk_set hb 0 (.int .i64 0); have c1 := cell_of_row _ (w.heap.size + 1 + 1) 1 _ _ (0, 0) b1
      have f1 := frozen_of_row _ (w.heap.size + 1 + 1) 1 _ _ b1; have b2 := blk_set b1 1 (.int .u64 0); have c2 := cell_of_row _ (w.heap.size + 1 + 1) 2 _ _ (0, 0) b2; have f2 := frozen_of_row _ (w.heap.size + 1 + 1) 2 _ _ b2; have b3 := blk_set b2 2 (.int .u64 0); have r0 := cell_of_row _ (w.heap.size + 1 + 1) 0 _ _ (0, 0) b3; have r1 := cell_of_row _ (w.heap.size + 1 + 1) 1 _ _ (0, 0) b3; have r2 := cell_of_row _ (w.heap.size + 1 + 1) 2 _ _ (0, 0) b3; simp only [sA, sZ, sS] at c0 c1 c2 r0 r1 r2; clear b1 b2 b3; clear hb; go_wp2
      refine bodyPost_ret (v := .tuple #[.agg #[.int .i64 0, .int .u64 0, .int .u64 0], .int .i64 6]) (by simp [results, Tryz.f60, go_sem, r0, r1, r2]) rfl (HR.out _ ?_); exact grow_set3 (by omega) (GX.out.tr (Grow.refl _)) _ _ _
   | false =>
    obtain ⟨h1, h2, h3⟩ := noneB_false hn; have t1 : (py == qy) = false := by rw [beq_eq_false_iff_ne]; exact h1
    have t2 : decide (c < min py qy) = false := decide_eq_false (by dsimp only at h2; omega); have t3 : decide (max py qy < c) = false := decide_eq_false (by dsimp only at h3; omega); obtain ⟨n, m, a, b, d, r, D, hin⟩ := IN.out hn
    obtain ⟨⟨fq, fr, fd⟩, hf⟩ : ∃ f, crossF ⟨py, px⟩ ⟨qy, qx⟩ c = f := ⟨_, rfl⟩
    rw [hf] at hin; have HR : Hid (∀ w', Grow w w' -> R (.returned (.tuple #[.agg #[.int .i64 fq, .int .u64 fr, .int .u64 fd], .int .i64 0])) w') := fun w' g => HR.out w' ⟨fq, fr, fd⟩ 0 (by unfold crossC; rw [hn, hf]; rfl) g
    clear h1 h2 h3 hn hf IN; obtain ⟨ea, eb, ed, ia, ib, id, em, im, en, eD, hr, hD, md, mk⟩ := hin
    try dsimp only at ea eb ed em
    have MD := Lh fun W (R : Ending -> World -> Prop) hR => mulDiv_any a b d ia ib id W (R := R) hR
    rw [md] at MD
    have MK : Hid (∀ W (R : Ending -> World -> Prop), (∀ w', Grow W w' -> R (.returned (.tuple #[.agg #[.int .i64 fq, .int .u64 fr, .int .u64 fd], .int .i64 0])) w') -> Calls Tryz.prog 101 #[.int .i64 m, .int .u64 r, .int .u64 D] W R) := fun W R hR => by
     refine make_any m r D W im hr hD ?_; intro w' f e h hg; rw [mk] at h; simp only [Prod.mk.injEq] at h; obtain ⟨rfl, rfl⟩ := h; exact hR w' hg
    clear ia ib id im hr hD md mk; have z0 := cell_of_row _ w.heap.size 0 _ _ (0, 0) (K0.out _ (Grow.refl _)); have z1 := cell_of_row _ w.heap.size 1 _ _ (0, 0) (K0.out _ (Grow.refl _)); have y0 := cell_of_row _ (w.heap.size + 1) 0 _ _ (0, 0) (K1.out _ (Grow.refl _)); have y1 := cell_of_row _ (w.heap.size + 1) 1 _ _ (0, 0) (K1.out _ (Grow.refl _)); go_wp2_with fail
    clear z0 z1 y0 y1 t1 t2 t3; go_at_call 100; refine MD.out _ _ ?_; intro w4 n' r' e' hg4 h; simp only [Prod.mk.injEq] at h; obtain ⟨rfl, rfl, rfl⟩ := h; have G4 := Lh hg4; clear hg4; have z0 := cell_of_row _ w.heap.size 0 _ _ (0, 0) (K0.out _ G4.out); have z1 := cell_of_row _ w.heap.size 1 _ _ (0, 0) (K0.out _ G4.out); have y0 := cell_of_row _ (w.heap.size + 1) 0 _ _ (0, 0) (K1.out _ G4.out); have y1 := cell_of_row _ (w.heap.size + 1) 1 _ _ (0, 0) (K1.out _ G4.out); go_wp2_with fail
    clear z0 z1 y0 y1 ea eb ed em en eD; go_at_call 101; refine MK.out _ _ ?_; intro w5 hg5; have G5 := Lh (G4.out.tr hg5); clear hg5; have hb := K2.out _ G5.out; have c0 := cell_of_row _ (w.heap.size + 1 + 1) 0 _ _ (0, 0) hb; have f0 := frozen_of_row _ (w.heap.size + 1 + 1) 0 _ _ hb; have b1 := blk_set hb 0 (.int .i64 fq); have c1 := cell_of_row _ (w.heap.size + 1 + 1) 1 _ _ (0, 0) b1; have f1 := frozen_of_row _ (w.heap.size + 1 + 1) 1 _ _ b1; have b2 := blk_set b1 1 (.int .u64 fr); have c2 := cell_of_row _ (w.heap.size + 1 + 1) 2 _ _ (0, 0) b2
    have f2 := frozen_of_row _ (w.heap.size + 1 + 1) 2 _ _ b2; have b3 := blk_set b2 2 (.int .u64 fd); have r0 := cell_of_row _ (w.heap.size + 1 + 1) 0 _ _ (0, 0) b3; have r1 := cell_of_row _ (w.heap.size + 1 + 1) 1 _ _ (0, 0) b3; have r2 := cell_of_row _ (w.heap.size + 1 + 1) 2 _ _ (0, 0) b3; simp only [sA, sZ, sS] at c0 c1 c2 r0 r1 r2; clear b1 b2 b3; clear hb; go_wp2; refine bodyPost_ret (v := .tuple #[.agg #[.int .i64 fq, .int .u64 fr, .int .u64 fd], .int .i64 0]) (by simp [results, Tryz.f60, go_sem, r0, r1, r2]) rfl (HR.out _ ?_)
    exact grow_set3 (by omega) (GX.out.tr G5.out) _ _ _
end Go.Proofs.YteeeeddeacepmaaGreatDoor
