import Derived.Test.YtfdjdfobhkmlpaaGreatFracW
namespace Go.Proofs.YtfdjdfobhkmlpaaGreat
set_option maxRecDepth 100000
open Go.RowKit
structure Pt where
 x : Int
 y : Int
 deriving DecidableEq
def Pt.cells (p : Pt) : List Value := [.int .i64 p.x, .int .i64 p.y]
def Pt.ok (p : Pt) : Prop := (-9223372036854775808 <= p.x /\ p.x <= 9223372036854775807) /\ -9223372036854775808 <= p.y /\ p.y <= 9223372036854775807
theorem Pt.cells_len (p : Pt) : p.cells.length = 2 := rfl
def Pts (l : List Pt) : List Value := l.flatMap Pt.cells
theorem Pts_len (l : List Pt) : (Pts l).length = l.length * 2 := flat_len _ _ Pt.cells_len l
theorem Pts_app (l m : List Pt) : Pts (l ++ m) = Pts l ++ Pts m := List.flatMap_append
theorem Pts_one (l : List Pt) : ∀ u ∈ Pts l, u.oneCell' = true := by
 intro u hu; obtain ⟨p, _, hp⟩ := List.mem_flatMap.1 hu; simp only [Pt.cells, List.mem_cons, List.not_mem_nil, or_false] at hp; rcases hp with rfl | rfl <;> rfl
theorem take_succ_eq {α : Type} {la lb : List α} {k : Nat} (ha : k < la.length) (hb : k < lb.length) (h : la.take k = lb.take k) (hx : la[k] = lb[k]) : la.take (k + 1) = lb.take (k + 1) := by
 rw [List.take_succ_eq_append_getElem ha, List.take_succ_eq_append_getElem hb, h, hx]
end Go.Proofs.YtfdjdfobhkmlpaaGreat
namespace Go.Proofs.YtfdjdfobhkmlpaaGreat
set_option maxRecDepth 100000
open Go.RowKit
def Pt.far (p : Pt) : Bool := !inw p.x || !inw p.y
def Pt.inside (p : Pt) (lo hi : Int) : Bool := decide (lo <= p.x) && decide (p.x <= hi) && decide (lo <= p.y) && decide (p.y <= hi)
set_option maxHeartbeats 1000000 in
theorem pfar_any (p : Pt) (w : World) {R : Ending -> World -> Prop} (hR : ∀ w', Grow w w' -> R (.returned (.bool p.far)) w') : Calls Tryz.prog 72 #[.agg p.cells.toArray] w R := by
 obtain ⟨x, y⟩ := p; have HR : ∀ b w', (Pt.far ⟨x, y⟩) = b -> Grow w w' -> R (.returned (.bool b)) w' := by rintro b w' rfl h; exact hR _ h
 have HR := Lh HR; clear hR; have HI := Lh fun W (R : Ending -> World -> Prop) hR => far_any x W (R := R) hR
 have HJ := Lh fun W (R : Ending -> World -> Prop) hR => far_any y W (R := R) hR
 unfold Pt.cells; dsimp only
 cases hq : inw x
 ·rw [hq] at HI
  have hq := Lh hq; go_enter Tryz.func72, Tryz.ntmps72
  go_wp2_with (go_at_call 73; refine HI.out _ _ ?_)
  refine HR.out _ _ (by simp [Pt.far, hq.out]) ((Grow.refl w).al _)
 ·rw [hq] at HI
  have hq := Lh hq; go_enter Tryz.func72, Tryz.ntmps72
  go_wp2_with (go_at_call 73; first | (refine HI.out _ _ ?_) | (refine HJ.out _ _ ?_))
  refine HR.out _ _ (by simp [Pt.far, hq.out]) ((Grow.refl w).al _)
set_option maxHeartbeats 1000000 in
theorem inside_any (p : Pt) (lo hi : Int) (w : World) {R : Ending -> World -> Prop} (hR : ∀ w', Grow w w' -> R (.returned (.bool (p.inside lo hi))) w') : Calls Tryz.prog 22 #[.agg p.cells.toArray, .int .i64 lo, .int .i64 hi] w R := by
 obtain ⟨x, y⟩ := p; have HR : ∀ b w', (Pt.inside ⟨x, y⟩ lo hi) = b -> Grow w w' -> R (.returned (.bool b)) w' := by rintro b w' rfl h; exact hR _ h
 have HR := Lh HR; clear hR; unfold Pt.cells; dsimp only
 cases h1 : decide (lo <= x)
 ·go_enter Tryz.func22, Tryz.ntmps22
  go_wp2; refine HR.out _ _ (by simp [Pt.inside, h1]) ((Grow.refl w).al _)
 ·cases h2 : decide (x <= hi)
  ·go_enter Tryz.func22, Tryz.ntmps22
   go_wp2; refine HR.out _ _ (by simp [Pt.inside, h1, h2]) ((Grow.refl w).al _)
  ·cases h3 : decide (lo <= y)
   ·go_enter Tryz.func22, Tryz.ntmps22
    go_wp2; refine HR.out _ _ (by simp [Pt.inside, h1, h2, h3]) ((Grow.refl w).al _)
   ·go_enter Tryz.func22, Tryz.ntmps22
    go_wp2; refine HR.out _ _ (by simp [Pt.inside, h1, h2, h3]) ((Grow.refl w).al _)
end Go.Proofs.YtfdjdfobhkmlpaaGreat
namespace Go.Proofs.YtfdjdfobhkmlpaaGreat
set_option maxRecDepth 100000
open Go.RowKit
structure Zm where
 up : Int
 x : Int
 y : Int
 b : Int
def Zm.cells (z : Zm) : List Value := [.int .i64 z.up, .int .i64 z.x, .int .i64 z.y, .int .i64 z.b]
def pw (n : Int) : Int := 2 ^ n.toNat
def zroom (z : Zm) (e : Int) : Bool := decide (1 <= e) && decide (e <= 65536) && decide (0 <= z.up) && decide (z.up <= 30) && decide (0 <= z.b) && decide (z.b <= e)
def zright (z : Zm) (e : Int) : Bool := zroom z e && (decide (0 <= z.x) && decide (z.x < pw z.up) && decide (0 <= z.y) && decide (z.y < pw z.up))
theorem pw_pos (n : Int) : 0 < pw n := Int.pow_pos (by decide)
theorem pw_le {n : Int} (h : n <= 30) : pw n <= 1073741824 := by
 unfold pw; have : n.toNat <= 30 := by omega
 generalize n.toNat = k at *
 have h2 : (2 : Int) ^ k <= 2 ^ 30 := by
  have : (2 : Nat) ^ k <= 2 ^ 30 := Nat.pow_le_pow_right (by decide) this
  exact_mod_cast this
 exact h2
theorem zright_iff {z : Zm} {e : Int} (h : zright z e = true) : 1 <= e /\ e <= 65536 /\ 0 <= z.up /\ z.up <= 30 /\ 0 <= z.b /\ z.b <= e /\ 0 <= z.x /\ z.x < pw z.up /\ 0 <= z.y /\ z.y < pw z.up := by
 unfold zright zroom at h; simp only [Bool.and_eq_true, decide_eq_true_eq] at h; obtain ⟨⟨⟨⟨⟨⟨h1, h2⟩, h3⟩, h4⟩, h5⟩, h6⟩, ⟨⟨h7, h8⟩, h9⟩, h10⟩ := h; exact ⟨h1, h2, h3, h4, h5, h6, h7, h8, h9, h10⟩
def scl (z : Zm) (e : Int) (p : Pt) : Pt := ⟨p.x * pw z.up - z.x * e, p.y * pw z.up - z.y * e⟩
theorem mul_bound {a b A B : Int} (ha : -A <= a /\ a <= A) (hb : 0 <= b /\ b <= B) (hA : 0 <= A) : -(A * B) <= a * b /\ a * b <= A * B := by
 have h1 : A * b <= A * B := Int.mul_le_mul_of_nonneg_left hb.2 hA; have h2 : a * b <= A * b := Int.mul_le_mul_of_nonneg_right ha.2 hb.1; have h3 : -A * b <= a * b := Int.mul_le_mul_of_nonneg_right ha.1 hb.1; rw [Int.neg_mul] at h3; omega
theorem scl_room {z : Zm} {e : Int} (hz : zright z e = true) {n m : Int} (hn : -1048576 <= n /\ n <= 1048576) (hm : 0 <= m /\ m < pw z.up) :
  (-1125899906842624 <= n * pw z.up /\ n * pw z.up <= 1125899906842624) /\ (0 <= m * e /\ m * e <= 70368744177664) := by
 obtain ⟨h1, h2, -, h4, -⟩ := zright_iff hz; have hp := pw_pos z.up; have hl := pw_le h4; have k1 := mul_bound (A := 1048576) (B := 1073741824) (by omega : -1048576 <= n /\ n <= 1048576) ⟨by omega, hl⟩ (by decide); have k2 := mul_bound (A := 1073741824) (B := 65536) (a := m) (b := e) ⟨by omega, by omega⟩ ⟨by omega, h2⟩ (by decide); have k3 : 0 <= m * e := Int.mul_nonneg hm.1 (by omega); refine ⟨⟨by omega, by omega⟩, k3, by omega⟩
theorem scl_far {z : Zm} {e : Int} (hz : zright z e = true) {p : Pt} (hx : -1048576 <= p.x /\ p.x <= 1048576) (hy : -1048576 <= p.y /\ p.y <= 1048576) : (scl z e p).far = false := by
 obtain ⟨h1, h2, h3, h4, h5, h6, h7, h8, h9, h10⟩ := zright_iff hz; have a := scl_room hz hx ⟨h7, h8⟩; have b := scl_room hz hy ⟨h9, h10⟩; unfold scl Pt.far inw; dsimp only; have e1 : decide (-4503599627370496 <= p.x * pw z.up - z.x * e) = true := decide_eq_true (by omega); have e2 : decide (p.x * pw z.up - z.x * e <= 4503599627370496) = true := decide_eq_true (by omega); have e3 : decide (-4503599627370496 <= p.y * pw z.up - z.y * e) = true := decide_eq_true (by omega); have e4 : decide (p.y * pw z.up - z.y * e <= 4503599627370496) = true := decide_eq_true (by omega); rw [e1, e2, e3, e4]; rfl
def ptsIn (z : Zm) (e : Int) (l : List Pt) : List Pt := (l.map (scl z e)).filter fun p => p.inside (-z.b) (e + z.b)
def ptL (z : Zm) (e : Int) (A : List (List Pt)) : List (List Pt) := if ptsIn z e (A.headD []) = [] then [] else [ptsIn z e (A.headD [])]
end Go.Proofs.YtfdjdfobhkmlpaaGreat
namespace Go.Proofs.YtfdjdfobhkmlpaaGreat
set_option maxRecDepth 100000
open Go.RowKit Go.Lib B
section
variable {W W' : World} {b : Nat} {p : Bool} {A : Option Addr} {x c : Nat} {p' : Bool} {A' : Option Addr} {x' c' : Nat} {n d : Int} {k j : Nat} {S : Nat -> Prop}
end
end Go.Proofs.YtfdjdfobhkmlpaaGreat
