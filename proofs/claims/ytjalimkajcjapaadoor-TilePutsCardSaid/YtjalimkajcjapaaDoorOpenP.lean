/-
  From the form's reading of points and rows of points to what my walks take.
-/
import Derived.Test.YtjalimkajcjapaaDoorChecked
import Derived.Test.YtjalimkajcjapaaDoorOpenW
import Derived.Test.YtjalimkajcjapaaDoorRowsA
namespace Go.Proofs.YtjalimkajcjapaaDoor
open Go.RowKit Go.ChangeShapes Go.WideShapes Go.Deep

section
variable {H : Type} {enc : TypeId × Value → H} {w : World}

theorem cells_int : Tryd.prog.cellsOf 3 = 1 := by kernel_rfl
theorem cells_pt : Tryd.prog.cellsOf 115 = 2 := by kernel_rfl
theorem list2 : ∀ {cs : List Value}, cs.length = 2 → ∃ a b, cs = [a, b]
  | [a, b], _ => ⟨a, b, rfl⟩
theorem flat_one {α : Type} (f : α → Value) (l : List α) : (l.flatMap fun a => [f a]) = l.map f := by
  induction l with
  | nil => rfl
  | cons a l ih => rw [List.flatMap_cons, ih]; rfl

theorem open_pt_el (m : Nat) (cs : List Value) (y : DataW H × List MemPlace) (h : DataW.trod enc Tryd.prog w 0 (fun _ => true) true m 115 cs = some y) : ∃ p : Pt, cs = p.cells ∧ p.ok := by
  obtain ⟨y0, y1, n, _, hl, h0, h1⟩ := trod_struct2 Tryd.underlying115 h
  obtain ⟨a, ha, _, wa⟩ := DataW.trod_int Tryd.underlying3 h0
  obtain ⟨b, hb, _, wb⟩ := DataW.trod_int Tryd.underlying3 h1
  rw [cells_pt] at hl
  dsimp only at ha hb
  rw [cells_int] at ha hb
  obtain ⟨c0, c1, rfl⟩ := list2 hl
  simp only [List.drop_zero, List.take_succ_cons, List.take_zero, List.drop_succ_cons, List.cons.injEq, and_true] at ha hb
  subst ha hb
  exact ⟨⟨a, b⟩, rfl, bounds_i64 wa, bounds_i64 wb⟩

theorem open_pts {fuel : Nat} {v : Value} {x : DataW H × List MemPlace} (h : DataW.trod enc Tryd.prog w 0 (fun _ => true) true fuel 78 [v] = some x) :
    ∃ l : List Pt, Rd w (fun _ => True) 2 v l.length (Pts l) ∧ ∀ a ∈ l, a.ok :=
  open_list Pt.cells Pt.ok Tryd.underlying78 cells_pt (by decide) open_pt_el h

theorem open_prow_el (m : Nat) (cs : List Value) (y : DataW H × List MemPlace) (h : DataW.trod enc Tryd.prog w 0 (fun _ => true) true m 78 cs = some y) :
    ∃ r : PRow, cs = [r.v] ∧ (r.rd w (fun _ => True) ∧ ∀ s ∈ r.l, s.ok) := by
  have hv : ∃ v, cs = [v] := by
    rcases open_slice Tryd.underlying78 h with ⟨h1, _⟩ | ⟨a, len, cap, m, k, D, Pl, h1, _⟩
    · exact ⟨_, h1⟩
    · exact ⟨_, h1⟩
  obtain ⟨v, rfl⟩ := hv
  obtain ⟨l, h1, h2⟩ := open_pts h
  exact ⟨⟨v, l⟩, rfl, h1, h2⟩

theorem open_prows {fuel : Nat} {v : Value} {x : DataW H × List MemPlace} (h : DataW.trod enc Tryd.prog w 0 (fun _ => true) true fuel 38 [v] = some x) :
    ∃ l : List PRow, Rd w (fun _ => True) 1 v l.length (l.map PRow.v) ∧ ∀ r ∈ l, r.rd w (fun _ => True) ∧ ∀ s ∈ r.l, s.ok := by
  obtain ⟨l, h1, h2⟩ := open_list (size := 1) (fun r : PRow => [r.v]) (fun r => r.rd w (fun _ => True) ∧ ∀ s ∈ r.l, s.ok) Tryd.underlying38 (by kernel_rfl) (by decide) open_prow_el h
  rw [flat_one] at h1
  exact ⟨l, h1, h2⟩
end
end Go.Proofs.YtjalimkajcjapaaDoor
