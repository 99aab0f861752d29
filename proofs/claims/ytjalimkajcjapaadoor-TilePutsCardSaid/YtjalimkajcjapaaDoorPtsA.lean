/-
  Points (for the seat of tiles: the parts of PtsA that it needs).
-/
import Derived.Test.YtjalimkajcjapaaDoorCore
import Derived.Test.YtjalimkajcjapaaDoorChecked
namespace Go.Proofs.YtjalimkajcjapaaDoor
open Go.RowKit

structure Pt where
  x : Int
  y : Int
  deriving DecidableEq
def Pt.cells (p : Pt) : List Value := [.int .i64 p.x, .int .i64 p.y]
def Pt.ok (p : Pt) : Prop := (-9223372036854775808 ≤ p.x ∧ p.x ≤ 9223372036854775807) ∧ -9223372036854775808 ≤ p.y ∧ p.y ≤ 9223372036854775807
theorem Pt.cells_len (p : Pt) : p.cells.length = 2 := rfl
def Pts (l : List Pt) : List Value := l.flatMap Pt.cells
theorem Pts_len (l : List Pt) : (Pts l).length = l.length * 2 := flat_len _ _ Pt.cells_len l
theorem Pts_app (l m : List Pt) : Pts (l ++ m) = Pts l ++ Pts m := List.flatMap_append
theorem Pts_one (l : List Pt) : ∀ u ∈ Pts l, u.oneCell' = true := by
  intro u hu
  obtain ⟨p, _, hp⟩ := List.mem_flatMap.1 hu
  simp only [Pt.cells, List.mem_cons, List.not_mem_nil, or_false] at hp
  rcases hp with rfl | rfl <;> rfl

theorem take_succ_eq {α : Type} {la lb : List α} {k : Nat} (ha : k < la.length) (hb : k < lb.length) (h : la.take k = lb.take k) (hx : la[k] = lb[k]) : la.take (k + 1) = lb.take (k + 1) := by
  rw [List.take_succ_eq_append_getElem ha, List.take_succ_eq_append_getElem hb, h, hx]

end Go.Proofs.YtjalimkajcjapaaDoor
