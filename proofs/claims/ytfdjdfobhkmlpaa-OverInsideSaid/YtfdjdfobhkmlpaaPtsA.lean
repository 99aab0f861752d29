/-
  Points, and rows of them. No program is named here.  Overzooming, in plain Lean: zooms that are right; points, scaled; two steps. portolanref23.Near; frac.Cmp.
-/
import Derived.Test.YtfdjdfobhkmlpaaCore
import Derived.Test.YtfdjdfobhkmlpaaChecked
import Derived.Test.YtfdjdfobhkmlpaaFracW
import Derived.Test.YtfdjdfobhkmlpaaWide
namespace Go.Proofs.Ytfdjdfobhkmlpaa
open Go.RowKit

structure Pt where
  x : Int
  y : Int
  deriving DecidableEq
def Pt.cells (p : Pt) : List Value := [.int .i64 p.x, .int .i64 p.y]
def Pt.ok (p : Pt) : Prop := (-9223372036854775808 ≤ p.x ∧ p.x ≤ 9223372036854775807) ∧ -9223372036854775808 ≤ p.y ∧ p.y ≤ 9223372036854775807
theorem Pt.cells_len (p : Pt) : p.cells.length = 2 := rfl
def Pts (l : List Pt) : List Value := l.flatMap Pt.cells
theorem Pts_len (l : List Pt) : (Pts l).length = l.length * 2 := flat_len _ _ Pt.cells_len l
theorem Pts_app (l m : List Pt) : Pts (l ++ m) = Pts l ++ Pts m := List.flatMap_append
theorem Pts_one (l : List Pt) : ∀ u ∈ Pts l, u.oneCell' = true := by
  intro u hu
  obtain ⟨p, _, hp⟩ := List.mem_flatMap.1 hu
  simp only [Pt.cells, List.mem_cons, List.not_mem_nil, or_false] at hp
  rcases hp with rfl | rfl <;> rfl

theorem take_succ_eq {α : Type} {la lb : List α} {k : Nat} (ha : k < la.length) (hb : k < lb.length) (h : la.take k = lb.take k) (hx : la[k] = lb[k]) : la.take (k + 1) = lb.take (k + 1) := by
  rw [List.take_succ_eq_append_getElem ha, List.take_succ_eq_append_getElem hb, h, hx]

end Go.Proofs.Ytfdjdfobhkmlpaa

namespace Go.Proofs.Ytfdjdfobhkmlpaa
open Go.RowKit

def Pt.far (p : Pt) : Bool := !inw p.x || !inw p.y
def Pt.inside (p : Pt) (lo hi : Int) : Bool := decide (lo ≤ p.x) && decide (p.x ≤ hi) && decide (lo ≤ p.y) && decide (p.y ≤ hi)

set_option maxRecDepth 100000 in
set_option maxHeartbeats 1000000 in
theorem inside_any (p : Pt) (lo hi : Int) (w : World) {R : Ending → World → Prop} (hR : ∀ w', Grow w w' → R (.returned (.bool (p.inside lo hi))) w') : Calls Try.prog 9 #[.agg p.cells.toArray, .int .i64 lo, .int .i64 hi] w R := by
  obtain ⟨x, y⟩ := p
  have HR : ∀ b w', (Pt.inside ⟨x, y⟩ lo hi) = b → Grow w w' → R (.returned (.bool b)) w' := by rintro b w' rfl h; exact hR _ h
  have HR := Lib.hid HR
  clear hR
  unfold Pt.cells
  dsimp only
  cases h1 : decide (lo ≤ x)
  · go_enter Try.func9, Try.ntmps9
    go_wp2
    refine HR.out _ _ (by simp [Pt.inside, h1]) ((Grow.refl w).al _)
  · cases h2 : decide (x ≤ hi)
    · go_enter Try.func9, Try.ntmps9
      go_wp2
      refine HR.out _ _ (by simp [Pt.inside, h1, h2]) ((Grow.refl w).al _)
    · cases h3 : decide (lo ≤ y)
      · go_enter Try.func9, Try.ntmps9
        go_wp2
        refine HR.out _ _ (by simp [Pt.inside, h1, h2, h3]) ((Grow.refl w).al _)
      · go_enter Try.func9, Try.ntmps9
        go_wp2
        refine HR.out _ _ (by simp [Pt.inside, h1, h2, h3]) ((Grow.refl w).al _)

def Fr.btw (f : Fr) (lo hi : Int) : Bool := f.right && decide (lo ≤ f.q) && (decide (f.q < hi) || (f.q == hi && f.r == 0))

end Go.Proofs.Ytfdjdfobhkmlpaa

namespace Go.Proofs.Ytfdjdfobhkmlpaa
open Go.RowKit

structure Zm where
  up : Int
  x : Int
  y : Int
  b : Int
def Zm.cells (z : Zm) : List Value := [.int .i64 z.up, .int .i64 z.x, .int .i64 z.y, .int .i64 z.b]
theorem Zm.cells_len (z : Zm) : z.cells.length = 4 := rfl
def pw (n : Int) : Int := 2 ^ n.toNat
/-- the bounds of a zoom and an extent, without the place in the row -/
def zroom (z : Zm) (e : Int) : Bool := decide (1 ≤ e) && decide (e ≤ 65536) && decide (0 ≤ z.up) && decide (z.up ≤ 30) && decide (0 ≤ z.b) && decide (z.b ≤ e)
def zright (z : Zm) (e : Int) : Bool := zroom z e && (decide (0 ≤ z.x) && decide (z.x < pw z.up) && decide (0 ≤ z.y) && decide (z.y < pw z.up))
theorem pw_pos (n : Int) : 0 < pw n := Int.pow_pos (by decide)
theorem pw_le {n : Int} (h : n ≤ 30) : pw n ≤ 1073741824 := by
  unfold pw
  have : n.toNat ≤ 30 := by omega
  generalize n.toNat = k at *
  have h2 : (2 : Int) ^ k ≤ 2 ^ 30 := by
    have : (2 : Nat) ^ k ≤ 2 ^ 30 := Nat.pow_le_pow_right (by decide) this
    exact_mod_cast this
  exact h2
theorem zright_iff {z : Zm} {e : Int} (h : zright z e = true) : 1 ≤ e ∧ e ≤ 65536 ∧ 0 ≤ z.up ∧ z.up ≤ 30 ∧ 0 ≤ z.b ∧ z.b ≤ e ∧ 0 ≤ z.x ∧ z.x < pw z.up ∧ 0 ≤ z.y ∧ z.y < pw z.up := by
  unfold zright zroom at h
  simp only [Bool.and_eq_true, decide_eq_true_eq] at h
  obtain ⟨⟨⟨⟨⟨⟨h1, h2⟩, h3⟩, h4⟩, h5⟩, h6⟩, ⟨⟨h7, h8⟩, h9⟩, h10⟩ := h
  exact ⟨h1, h2, h3, h4, h5, h6, h7, h8, h9, h10⟩
theorem zright_of {z : Zm} {e : Int} (h : 1 ≤ e ∧ e ≤ 65536 ∧ 0 ≤ z.up ∧ z.up ≤ 30 ∧ 0 ≤ z.b ∧ z.b ≤ e ∧ 0 ≤ z.x ∧ z.x < pw z.up ∧ 0 ≤ z.y ∧ z.y < pw z.up) : zright z e = true := by
  unfold zright zroom
  simp only [Bool.and_eq_true, decide_eq_true_eq]
  obtain ⟨h1, h2, h3, h4, h5, h6, h7, h8, h9, h10⟩ := h
  exact ⟨⟨⟨⟨⟨⟨h1, h2⟩, h3⟩, h4⟩, h5⟩, h6⟩, ⟨⟨h7, h8⟩, h9⟩, h10⟩
def scl (z : Zm) (e : Int) (p : Pt) : Pt := ⟨p.x * pw z.up - z.x * e, p.y * pw z.up - z.y * e⟩
theorem mul_bound {a b A B : Int} (ha : -A ≤ a ∧ a ≤ A) (hb : 0 ≤ b ∧ b ≤ B) (hA : 0 ≤ A) : -(A * B) ≤ a * b ∧ a * b ≤ A * B := by
  have h1 : A * b ≤ A * B := Int.mul_le_mul_of_nonneg_left hb.2 hA
  have h2 : a * b ≤ A * b := Int.mul_le_mul_of_nonneg_right ha.2 hb.1
  have h3 : -A * b ≤ a * b := Int.mul_le_mul_of_nonneg_right ha.1 hb.1
  rw [Int.neg_mul] at h3
  omega
/-- no overflow: the products and the differences -/
theorem scl_room {z : Zm} {e : Int} (hz : zright z e = true) {n m : Int} (hn : -1048576 ≤ n ∧ n ≤ 1048576) (hm : 0 ≤ m ∧ m < pw z.up) :
    (-1125899906842624 ≤ n * pw z.up ∧ n * pw z.up ≤ 1125899906842624) ∧ (0 ≤ m * e ∧ m * e ≤ 70368744177664) := by
  obtain ⟨h1, h2, -, h4, -⟩ := zright_iff hz
  have hp := pw_pos z.up
  have hl := pw_le h4
  have k1 := mul_bound (A := 1048576) (B := 1073741824) (by omega : -1048576 ≤ n ∧ n ≤ 1048576) ⟨by omega, hl⟩ (by decide)
  have k2 := mul_bound (A := 1073741824) (B := 65536) (a := m) (b := e) ⟨by omega, by omega⟩ ⟨by omega, h2⟩ (by decide)
  have k3 : 0 ≤ m * e := Int.mul_nonneg hm.1 (by omega)
  refine ⟨⟨by omega, by omega⟩, k3, by omega⟩
theorem scl_far {z : Zm} {e : Int} (hz : zright z e = true) {p : Pt} (hx : -1048576 ≤ p.x ∧ p.x ≤ 1048576) (hy : -1048576 ≤ p.y ∧ p.y ≤ 1048576) : (scl z e p).far = false := by
  obtain ⟨h1, h2, h3, h4, h5, h6, h7, h8, h9, h10⟩ := zright_iff hz
  have a := scl_room hz hx ⟨h7, h8⟩
  have b := scl_room hz hy ⟨h9, h10⟩
  unfold scl Pt.far inw
  dsimp only
  have e1 : decide (-4503599627370496 ≤ p.x * pw z.up - z.x * e) = true := decide_eq_true (by omega)
  have e2 : decide (p.x * pw z.up - z.x * e ≤ 4503599627370496) = true := decide_eq_true (by omega)
  have e3 : decide (-4503599627370496 ≤ p.y * pw z.up - z.y * e) = true := decide_eq_true (by omega)
  have e4 : decide (p.y * pw z.up - z.y * e ≤ 4503599627370496) = true := decide_eq_true (by omega)
  rw [e1, e2, e3, e4]
  rfl

/-- what is left of points -/
def ptsIn (z : Zm) (e : Int) (l : List Pt) : List Pt := (l.map (scl z e)).filter fun p => p.inside (-z.b) (e + z.b)
def ptL (z : Zm) (e : Int) (A : List (List Pt)) : List (List Pt) := if ptsIn z e (A.headD []) = [] then [] else [ptsIn z e (A.headD [])]
theorem two_steps_1 {up more X b e n q : Int} (hm : 0 ≤ more) (hup : 0 ≤ up) (hb : 0 ≤ b) (he : 1 ≤ e) (hq : q = n * pw (up + more) - X * e) :
    (n * pw up - X / pw more * e) * pw more - X % pw more * e = q ∧ (-b ≤ q ∧ q ≤ e + b → -b ≤ n * pw up - X / pw more * e ∧ n * pw up - X / pw more * e ≤ e + b) := by
  have hpw : pw (up + more) = pw up * pw more := by
    unfold pw
    rw [show (up + more).toNat = up.toNat + more.toNat by omega, Int.pow_add]
  have hp := pw_pos more
  have hdm : pw more * (X / pw more) + X % pw more = X := Int.mul_ediv_add_emod X (pw more)
  have hr0 : 0 ≤ X % pw more := Int.emod_nonneg _ (by omega)
  have hr1 : X % pw more < pw more := Int.emod_lt_of_pos _ hp
  rw [hpw] at hq
  generalize pw more = M at *
  generalize pw up = U at *
  generalize X / M = d at *
  generalize X % M = r at *
  have e1 : (n * U - d * e) * M - r * e = q := by
    rw [hq, ← hdm, Int.sub_mul, Int.add_mul, Int.mul_assoc, Int.mul_assoc d e M, Int.mul_comm e M, ← Int.mul_assoc d M e, Int.mul_comm d M]
    omega
  refine ⟨e1, fun ⟨h1, h2⟩ => ?_⟩
  generalize n * U - d * e = m at *
  have k1 : 0 ≤ r * e := Int.mul_nonneg hr0 (by omega)
  have k2 : r * e ≤ (M - 1) * e := Int.mul_le_mul_of_nonneg_right (by omega) (by omega)
  rw [Int.sub_mul, Int.one_mul] at k2
  constructor
  · rw [← Int.not_lt]
    intro hn
    have h3 : m * M ≤ (-b - 1) * M := Int.mul_le_mul_of_nonneg_right (by omega) (by omega)
    have h4 : (-b - 1) * M ≤ (-b - 1) * 1 := Int.mul_le_mul_of_nonpos_left (by omega) (by omega)
    omega
  · rw [← Int.not_lt]
    intro hn
    have h3 : (e + b + 1) * M ≤ m * M := Int.mul_le_mul_of_nonneg_right (by omega) (by omega)
    rw [Int.add_mul, Int.add_mul, Int.one_mul, Int.mul_comm e M] at h3
    rw [Int.mul_comm M e] at k2
    rw [Int.mul_comm M e] at h3
    have h5 : b * 1 ≤ b * M := Int.mul_le_mul_of_nonneg_left (by omega) hb
    omega
/-- P28.4: two steps -/
theorem two_steps {up more X Y b e : Int} (hm : 0 ≤ more) (hup : 0 ≤ up) (hb : 0 ≤ b) (he : 1 ≤ e) (l : List Pt) :
    ptsIn ⟨more, X % pw more, Y % pw more, b⟩ e (ptsIn ⟨up, X / pw more, Y / pw more, b⟩ e l) = ptsIn ⟨up + more, X, Y, b⟩ e l := by
  induction l with
  | nil => rfl
  | cons p l ih =>
    have x := two_steps_1 (X := X) (n := p.x) hm hup hb he rfl
    have y := two_steps_1 (X := Y) (n := p.y) hm hup hb he rfl
    unfold ptsIn at ih ⊢
    dsimp only at ih ⊢
    rw [List.map_cons, List.map_cons, List.filter_cons, List.filter_cons]
    have e2 : scl ⟨more, X % pw more, Y % pw more, b⟩ e (scl ⟨up, X / pw more, Y / pw more, b⟩ e p) = scl ⟨up + more, X, Y, b⟩ e p := by
      unfold scl
      dsimp only
      rw [x.1, y.1]
    by_cases hin : (scl ⟨up + more, X, Y, b⟩ e p).inside (-b) (e + b) = true
    · have hm' : (scl ⟨up, X / pw more, Y / pw more, b⟩ e p).inside (-b) (e + b) = true := by
        unfold Pt.inside scl at hin ⊢
        dsimp only at hin ⊢
        simp only [Bool.and_eq_true, decide_eq_true_eq] at hin ⊢
        obtain ⟨⟨⟨p1, p2⟩, p3⟩, p4⟩ := hin
        have a := x.2 ⟨p1, p2⟩
        have c := y.2 ⟨p3, p4⟩
        exact ⟨⟨⟨a.1, a.2⟩, c.1⟩, c.2⟩
      rw [if_pos hin, if_pos hm', List.map_cons, List.filter_cons, e2, if_pos hin, ih]
    · rw [if_neg hin]
      split
      · rw [List.map_cons, List.filter_cons, e2, if_neg hin, ih]
      · exact ih
end Go.Proofs.Ytfdjdfobhkmlpaa

namespace Go.Proofs.Ytfdjdfobhkmlpaa
open Go.RowKit Go.Lib B

section
variable {W W' : World} {b : Nat} {p : Bool} {A : Option Addr} {x c : Nat} {p' : Bool} {A' : Option Addr} {x' c' : Nat} {n d : Int} {k j : Nat} {S : Nat → Prop}
end


end Go.Proofs.Ytfdjdfobhkmlpaa
