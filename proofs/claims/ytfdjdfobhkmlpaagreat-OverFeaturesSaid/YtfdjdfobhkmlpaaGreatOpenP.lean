import Derived.Test.YtfdjdfobhkmlpaaGreatOpenW
import Derived.Test.YtfdjdfobhkmlpaaGreatRowsA
namespace Go.Proofs.YtfdjdfobhkmlpaaGreat
set_option maxRecDepth 100000
open Go.RowKit Go.ChangeShapes Go.WideShapes Go.Deep
section
variable {H : Type} {enc : TypeId × Value -> H} {w : World}
theorem cells_int : Tryz.prog.cellsOf 3 = 1 := by kernel_rfl
theorem cells_pt : Tryz.prog.cellsOf 39 = 2 := by kernel_rfl
theorem list2 : ∀ {cs : List Value}, cs.length = 2 -> ∃ a b, cs = [a, b]
 | [a, b], _ => ⟨a, b, rfl⟩
theorem flat_one {α : Type} (f : α -> Value) (l : List α) : (l.flatMap fun a => [f a]) = l.map f := by
 induction l with
 | nil => rfl
 | cons a l ih => rw [List.flatMap_cons, ih]; rfl
theorem open_pt_el (m : Nat) (cs : List Value) (y : DataW H × List MemPlace) (h : DataW.trod enc Tryz.prog w 0 (fun _ => true) true m 39 cs = some y) : ∃ p : Pt, cs = p.cells /\ p.ok := by
 obtain ⟨y0, y1, n, _, hl, h0, h1⟩ := trod_struct2 Tryz.underlying39 h; obtain ⟨a, ha, _, wa⟩ := DataW.trod_int Tryz.underlying3 h0; obtain ⟨b, hb, _, wb⟩ := DataW.trod_int Tryz.underlying3 h1; rw [cells_pt] at hl; dsimp only at ha hb; rw [cells_int] at ha hb; obtain ⟨c0, c1, rfl⟩ := list2 hl; simp only [List.drop_zero, List.take_succ_cons, List.take_zero, List.drop_succ_cons, List.cons.injEq, and_true] at ha hb; subst ha hb; exact ⟨⟨a, b⟩, rfl, bounds_i64 wa, bounds_i64 wb⟩
end
end Go.Proofs.YtfdjdfobhkmlpaaGreat
