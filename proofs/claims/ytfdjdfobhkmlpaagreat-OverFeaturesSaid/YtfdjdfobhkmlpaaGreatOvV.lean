import Derived.Test.YtfdjdfobhkmlpaaGreatOvT
import Derived.Test.YtfdjdfobhkmlpaaGreatOvJ
namespace Go.Proofs.YtfdjdfobhkmlpaaGreat
set_option maxRecDepth 100000
open Go.RowKit B
theorem feature_any (f : Ft) (z : Zm) (e : Int) (A : List PRow) (n : Nat) (xs : List Value) (S S' Sa : Nat -> Prop) (w : World) (hp : Rd w S 1 f.pv A.length (A.map PRow.v)) (hA : ∀ r ∈ A, r.rd w S') (ha : Rd w Sa 4 f.av n xs) (h1 : ∀ u ∈ xs, u.oneCell' = true) (hn : n * 48 <= 140737488355328) (hl : A.length <= 400 /\ ∀ r ∈ A, r.l.length <= 400)
  {R : Ending -> World -> Prop}
  (hbad : (zright z e = true -> pright f.ty A = 0 -> featL f.ty z e (A.map PRow.l) = []) -> ∀ w', Grow w w' -> R (.returned (.tuple #[.agg zeroFt.cells.toArray, .bool false])) w')
  (hok : zright z e = true -> pright f.ty A = 0 -> featL f.ty z e (A.map PRow.l) ≠ [] -> ∀ (pv av : Value) (rows : List PRow) (w' : World), Grow w w' -> Rd w' (fun _ => True) 1 pv rows.length (rows.map PRow.v) -> (∀ r ∈ rows, r.rd w' (fun _ => True)) -> rows.map PRow.l = featL f.ty z e (A.map PRow.l) -> Rd w' (fun _ => True) 4 av n xs -> R (.returned (.tuple #[.agg (⟨f.h, f.id, f.ty, pv, av⟩ : Ft).cells.toArray, .bool true])) w') :
  Calls Tryz.prog 6 #[.agg f.cells.toArray, .agg z.cells.toArray, .int .i64 e] w R := by
 by_cases t1 : f.ty = 1
 ·have e1 : featL f.ty z e (A.map PRow.l) = ptL z e (A.map PRow.l) := by unfold featL; rw [if_pos t1]
  rw [e1] at hbad hok; exact feature1_any f z e A n xs S S' Sa w hp hA ha h1 hn ⟨by omega, fun r hr => by have := hl.2 r hr; omega⟩ (fun _ _ => t1) hbad hok
 ·by_cases t2 : f.ty = 2
  ·have e1 : featL f.ty z e (A.map PRow.l) = lnL z e (A.map PRow.l) := by unfold featL lnL; rw [if_neg t1, if_pos t2]
   rw [e1] at hbad hok; exact feature2_any f z e A n xs S S' Sa w hp hA ha h1 hn hl (fun _ _ => t2) hbad hok
  ·have e1 : featL f.ty z e (A.map PRow.l) = polyL z e (A.map PRow.l) := by unfold featL; rw [if_neg t1, if_neg t2]
   rw [e1] at hbad hok; exact feature3_any f z e A n xs S S' Sa w hp hA ha h1 hn hl (fun _ h => by obtain ⟨b1, b2, -⟩ := pright_len h; omega) hbad hok
end Go.Proofs.YtfdjdfobhkmlpaaGreat
