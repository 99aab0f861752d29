/-
  portolanref23.Near; frac.Cmp.
-/
import Derived.Test.YtjcgkhcbdbbdkaaChecked
import Derived.Test.YtjcgkhcbdbbdkaaFracW
import Derived.Test.YtjcgkhcbdbbdkaaWide
namespace Go.Proofs.Ytjcgkhcbdbbdkaa
open Go.RowKit Go.Lib B

/-- a box that holds a fraction -/
structure RatBox (W : World) (b : Nat) (p : Bool) (A : Option Addr) (x c : Nat) (p' : Bool) (A' : Option Addr) (x' c' : Nat) (n d : Int) (k j : Nat) (S : Nat → Prop) : Prop where
  blk : W.heap[b]? = some (.cells #[.bool p, .slice A x c, .bool p', .slice A' x' c'] 35 (0, 0))
  num : BigR W S (.agg #[.bool p, .slice A x c]) n k
  den : BigR W S (.agg #[.bool p', .slice A' x' c']) d j
section
variable {W W' : World} {b : Nat} {p : Bool} {A : Option Addr} {x c : Nat} {p' : Bool} {A' : Option Addr} {x' c' : Nat} {n d : Int} {k j : Nat} {S : Nat → Prop}
theorem RatBox.gr (h : RatBox W b p A x c p' A' x' c' n d k j S) (hg : Grow W W') : RatBox W' b p A x c p' A' x' c' n d k j S := ⟨grow_blk hg h.blk, h.num.gr hg, h.den.gr hg⟩
theorem RatBox.st4 (h : RatBox W b p A x c p' A' x' c' n d k j S) {b' : Nat} (hne : b ≠ b') (hS : ∀ x, S x → x ≠ b') (u0 u1 u2 u3 : Value) : RatBox (st4 W b' u0 u1 u2 u3) b p A x c p' A' x' c' n d k j S :=
  ⟨(st4_other hne u0 u1 u2 u3).trans h.blk, h.num.st4 hS u0 u1 u2 u3, h.den.st4 hS u0 u1 u2 u3⟩
theorem RatBox.c0 (h : RatBox W b p A x c p' A' x' c' n d k j S) : W.cell? ⟨b, 0, none⟩ = some (.bool p) := cell_of_row _ b 0 _ _ (0, 0) h.blk
theorem RatBox.c1 (h : RatBox W b p A x c p' A' x' c' n d k j S) : W.cell? ⟨b, 1, none⟩ = some (.slice A x c) := cell_of_row _ b 1 _ _ (0, 0) h.blk
theorem RatBox.c2 (h : RatBox W b p A x c p' A' x' c' n d k j S) : W.cell? ⟨b, 2, none⟩ = some (.bool p') := cell_of_row _ b 2 _ _ (0, 0) h.blk
theorem RatBox.c3 (h : RatBox W b p A x c p' A' x' c' n d k j S) : W.cell? ⟨b, 3, none⟩ = some (.slice A' x' c') := cell_of_row _ b 3 _ _ (0, 0) h.blk
theorem RatBox.rat (h : RatBox W b p A x c p' A' x' c' n d k j S) : RatR W S (.agg #[.bool p, .slice A x c, .bool p', .slice A' x' c']) n d k j := ⟨_, _, _, _, _, _, _, _, rfl, h.num, h.den⟩
end


end Go.Proofs.Ytjcgkhcbdbbdkaa
