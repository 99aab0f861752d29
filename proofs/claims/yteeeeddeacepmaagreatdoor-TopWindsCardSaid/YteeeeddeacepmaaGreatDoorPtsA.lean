import Derived.Test.YteeeeddeacepmaaGreatDoorFracW
namespace Go.Proofs.YteeeeddeacepmaaGreatDoor
set_option maxRecDepth 100000
open Go.RowKit
structure Pt where
 x : Int
 y : Int
 deriving DecidableEq
def Pt.cells (p : Pt) : List Value := [.int .i64 p.x, .int .i64 p.y]
def Pt.ok (p : Pt) : Prop := (-9223372036854775808 <= p.x /\ p.x <= 9223372036854775807) /\ -9223372036854775808 <= p.y /\ p.y <= 9223372036854775807
theorem Pt.cells_len (p : Pt) : p.cells.length = 2 := rfl
def Pts (l : List Pt) : List Value := l.flatMap Pt.cells
theorem Pts_len (l : List Pt) : (Pts l).length = l.length * 2 := flat_len _ _ Pt.cells_len l
theorem Pts_app (l m : List Pt) : Pts (l ++ m) = Pts l ++ Pts m := List.flatMap_append
end Go.Proofs.YteeeeddeacepmaaGreatDoor
namespace Go.Proofs.YteeeeddeacepmaaGreatDoor
set_option maxRecDepth 100000
open Go.RowKit
def Pt.far (p : Pt) : Bool := !inw p.x || !inw p.y
def Pt.inside (p : Pt) (lo hi : Int) : Bool := decide (lo <= p.x) && decide (p.x <= hi) && decide (lo <= p.y) && decide (p.y <= hi)
end Go.Proofs.YteeeeddeacepmaaGreatDoor
namespace Go.Proofs.YteeeeddeacepmaaGreatDoor
set_option maxRecDepth 100000
open Go.RowKit
structure Zm where
 up : Int
 x : Int
 y : Int
 b : Int
def Zm.cells (z : Zm) : List Value := [.int .i64 z.up, .int .i64 z.x, .int .i64 z.y, .int .i64 z.b]
theorem Zm.cells_len (z : Zm) : z.cells.length = 4 := rfl
def pw (n : Int) : Int := 2 ^ n.toNat
def zroom (z : Zm) (e : Int) : Bool := decide (1 <= e) && decide (e <= 65536) && decide (0 <= z.up) && decide (z.up <= 30) && decide (0 <= z.b) && decide (z.b <= e)
def zright (z : Zm) (e : Int) : Bool := zroom z e && (decide (0 <= z.x) && decide (z.x < pw z.up) && decide (0 <= z.y) && decide (z.y < pw z.up))
theorem pw_pos (n : Int) : 0 < pw n := Int.pow_pos (by decide)
theorem pw_le {n : Int} (h : n <= 30) : pw n <= 1073741824 := by
 unfold pw; have : n.toNat <= 30 := by omega
 generalize n.toNat = k at *
 have h2 : (2 : Int) ^ k <= 2 ^ 30 := by
  have : (2 : Nat) ^ k <= 2 ^ 30 := Nat.pow_le_pow_right (by decide) this
  exact_mod_cast this
 exact h2
theorem zright_iff {z : Zm} {e : Int} (h : zright z e = true) : 1 <= e /\ e <= 65536 /\ 0 <= z.up /\ z.up <= 30 /\ 0 <= z.b /\ z.b <= e /\ 0 <= z.x /\ z.x < pw z.up /\ 0 <= z.y /\ z.y < pw z.up := by
 unfold zright zroom at h; simp only [Bool.and_eq_true, decide_eq_true_eq] at h; obtain ⟨⟨⟨⟨⟨⟨h1, h2⟩, h3⟩, h4⟩, h5⟩, h6⟩, ⟨⟨h7, h8⟩, h9⟩, h10⟩ := h; exact ⟨h1, h2, h3, h4, h5, h6, h7, h8, h9, h10⟩
theorem zright_of {z : Zm} {e : Int} (h : 1 <= e /\ e <= 65536 /\ 0 <= z.up /\ z.up <= 30 /\ 0 <= z.b /\ z.b <= e /\ 0 <= z.x /\ z.x < pw z.up /\ 0 <= z.y /\ z.y < pw z.up) : zright z e = true := by
 unfold zright zroom; simp only [Bool.and_eq_true, decide_eq_true_eq]; obtain ⟨h1, h2, h3, h4, h5, h6, h7, h8, h9, h10⟩ := h; exact ⟨⟨⟨⟨⟨⟨h1, h2⟩, h3⟩, h4⟩, h5⟩, h6⟩, ⟨⟨h7, h8⟩, h9⟩, h10⟩
def scl (z : Zm) (e : Int) (p : Pt) : Pt := ⟨p.x * pw z.up - z.x * e, p.y * pw z.up - z.y * e⟩
theorem mul_bound {a b A B : Int} (ha : -A <= a /\ a <= A) (hb : 0 <= b /\ b <= B) (hA : 0 <= A) : -(A * B) <= a * b /\ a * b <= A * B := by
 have h1 : A * b <= A * B := Int.mul_le_mul_of_nonneg_left hb.2 hA; have h2 : a * b <= A * b := Int.mul_le_mul_of_nonneg_right ha.2 hb.1; have h3 : -A * b <= a * b := Int.mul_le_mul_of_nonneg_right ha.1 hb.1; rw [Int.neg_mul] at h3; omega
theorem scl_room {z : Zm} {e : Int} (hz : zright z e = true) {n m : Int} (hn : -1048576 <= n /\ n <= 1048576) (hm : 0 <= m /\ m < pw z.up) :
  (-1125899906842624 <= n * pw z.up /\ n * pw z.up <= 1125899906842624) /\ (0 <= m * e /\ m * e <= 70368744177664) := by
 obtain ⟨h1, h2, -, h4, -⟩ := zright_iff hz; have hp := pw_pos z.up; have hl := pw_le h4; have k1 := mul_bound (A := 1048576) (B := 1073741824) (by omega : -1048576 <= n /\ n <= 1048576) ⟨by omega, hl⟩ (by decide); have k2 := mul_bound (A := 1073741824) (B := 65536) (a := m) (b := e) ⟨by omega, by omega⟩ ⟨by omega, h2⟩ (by decide); have k3 : 0 <= m * e := Int.mul_nonneg hm.1 (by omega); refine ⟨⟨by omega, by omega⟩, k3, by omega⟩
end Go.Proofs.YteeeeddeacepmaaGreatDoor
namespace Go.Proofs.YteeeeddeacepmaaGreatDoor
set_option maxRecDepth 100000
open Go.RowKit Go.Lib B
structure RatBox (W : World) (b : Nat) (p : Bool) (A : Option Addr) (x c : Nat) (p' : Bool) (A' : Option Addr) (x' c' : Nat) (n d : Int) (k j : Nat) (S : Nat -> Prop) : Prop where
 blk : W.heap[b]? = some (.cells #[.bool p, .slice A x c, .bool p', .slice A' x' c'] 42 (0, 0))
 num : BigR W S (.agg #[.bool p, .slice A x c]) n k
 den : BigR W S (.agg #[.bool p', .slice A' x' c']) d j
section
variable {W W' : World} {b : Nat} {p : Bool} {A : Option Addr} {x c : Nat} {p' : Bool} {A' : Option Addr} {x' c' : Nat} {n d : Int} {k j : Nat} {S : Nat -> Prop}
theorem RatBox.gr (h : RatBox W b p A x c p' A' x' c' n d k j S) (hg : Grow W W') : RatBox W' b p A x c p' A' x' c' n d k j S := ⟨grow_blk hg h.blk, h.num.gr hg, h.den.gr hg⟩
theorem RatBox.st4 (h : RatBox W b p A x c p' A' x' c' n d k j S) {b' : Nat} (hne : b ≠ b') (hS : ∀ x, S x -> x ≠ b') (u0 u1 u2 u3 : Value) : RatBox (st4 W b' u0 u1 u2 u3) b p A x c p' A' x' c' n d k j S :=
 ⟨(st4_other hne u0 u1 u2 u3).trans h.blk, h.num.st4 hS u0 u1 u2 u3, h.den.st4 hS u0 u1 u2 u3⟩
theorem RatBox.c0 (h : RatBox W b p A x c p' A' x' c' n d k j S) : W.cell? ⟨b, 0, none⟩ = some (.bool p) := cell_of_row _ b 0 _ _ (0, 0) h.blk
theorem RatBox.c1 (h : RatBox W b p A x c p' A' x' c' n d k j S) : W.cell? ⟨b, 1, none⟩ = some (.slice A x c) := cell_of_row _ b 1 _ _ (0, 0) h.blk
theorem RatBox.c2 (h : RatBox W b p A x c p' A' x' c' n d k j S) : W.cell? ⟨b, 2, none⟩ = some (.bool p') := cell_of_row _ b 2 _ _ (0, 0) h.blk
theorem RatBox.c3 (h : RatBox W b p A x c p' A' x' c' n d k j S) : W.cell? ⟨b, 3, none⟩ = some (.slice A' x' c') := cell_of_row _ b 3 _ _ (0, 0) h.blk
end
end Go.Proofs.YteeeeddeacepmaaGreatDoor
