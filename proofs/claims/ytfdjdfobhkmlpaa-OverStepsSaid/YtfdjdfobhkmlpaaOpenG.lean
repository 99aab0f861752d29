/-
  From the form's reading of points, fractions, spots and rows of them to what my walks take.
-/
import Derived.Test.YtfdjdfobhkmlpaaChecked
import Derived.Test.YtfdjdfobhkmlpaaOpen
import Derived.Test.YtfdjdfobhkmlpaaPts
import Derived.Test.YtfdjdfobhkmlpaaNorm
namespace Go.Proofs.Ytfdjdfobhkmlpaa
open Go.RowKit Go.ChangeShapes Go.WideShapes Go.Deep

section
variable {H : Type} {enc : TypeId × Value → H} {w : World}

theorem cells_int : Try.prog.cellsOf 3 = 1 := by kernel_rfl
theorem cells_u64 : Try.prog.cellsOf 22 = 1 := by kernel_rfl
theorem cells_pt : Try.prog.cellsOf 36 = 2 := by kernel_rfl
theorem cells_frac : Try.prog.cellsOf 89 = 3 := by kernel_rfl
theorem cells_spot : Try.prog.cellsOf 91 = 6 := by kernel_rfl

theorem list2 : ∀ {cs : List Value}, cs.length = 2 → ∃ a b, cs = [a, b]
  | [a, b], _ => ⟨a, b, rfl⟩
theorem list3 : ∀ {cs : List Value}, cs.length = 3 → ∃ a b c, cs = [a, b, c]
  | [a, b, c], _ => ⟨a, b, c, rfl⟩
theorem list6 : ∀ {cs : List Value}, cs.length = 6 → ∃ a b c d e f, cs = [a, b, c, d, e, f]
  | [a, b, c, d, e, f], _ => ⟨a, b, c, d, e, f, rfl⟩

theorem open_pt_el (m : Nat) (cs : List Value) (y : DataW H × List MemPlace) (h : DataW.trod enc Try.prog w 0 (fun _ => true) true m 36 cs = some y) : ∃ p : Pt, cs = p.cells ∧ p.ok := by
  obtain ⟨y0, y1, n, _, hl, h0, h1⟩ := trod_struct2 Try.underlying36 h
  obtain ⟨a, ha, _, wa⟩ := DataW.trod_int Try.underlying3 h0
  obtain ⟨b, hb, _, wb⟩ := DataW.trod_int Try.underlying3 h1
  rw [cells_pt] at hl
  dsimp only at ha hb
  rw [cells_int] at ha hb
  obtain ⟨c0, c1, rfl⟩ := list2 hl
  · simp only [List.drop_zero, List.take_succ_cons, List.take_zero, List.drop_succ_cons, List.cons.injEq, and_true] at ha hb
    subst ha hb
    exact ⟨⟨a, b⟩, rfl, bounds_i64 wa, bounds_i64 wb⟩

theorem open_frac_el (m : Nat) (cs : List Value) (y : DataW H × List MemPlace) (h : DataW.trod enc Try.prog w 0 (fun _ => true) true m 89 cs = some y) : ∃ f : Fr, cs = f.cells ∧ f.ok := by
  obtain ⟨y0, y1, y2, n, _, hl, h0, h1, h2⟩ := trod_struct3 Try.underlying89 h
  obtain ⟨a, ha, _, wa⟩ := DataW.trod_int Try.underlying3 h0
  obtain ⟨b, hb, _, wb⟩ := DataW.trod_int Try.underlying22 h1
  obtain ⟨c, hc, _, wc⟩ := DataW.trod_int Try.underlying22 h2
  rw [cells_frac] at hl
  dsimp only at ha hb hc
  rw [cells_int] at ha
  rw [cells_u64] at hb hc
  have b0 := bounds_i64 wa
  have b1 := bounds_u64 wb
  have b2 := bounds_u64 wc
  obtain ⟨b, rfl⟩ := Int.eq_ofNat_of_zero_le b1.1
  obtain ⟨c, rfl⟩ := Int.eq_ofNat_of_zero_le b2.1
  obtain ⟨c0, c1, c2, rfl⟩ := list3 hl
  · simp only [List.drop_zero, List.take_succ_cons, List.take_zero, List.drop_succ_cons, List.cons.injEq, and_true] at ha hb hc
    subst ha hb hc
    exact ⟨⟨a, b, c⟩, rfl, b0.1, b0.2, by show b < _; omega, by show c < _; omega⟩

theorem open_spot_el (m : Nat) (cs : List Value) (y : DataW H × List MemPlace) (h : DataW.trod enc Try.prog w 0 (fun _ => true) true m 91 cs = some y) : ∃ s : Spot, cs = s.cells ∧ s.ok := by
  obtain ⟨y0, y1, n, _, hl, h0, h1⟩ := trod_struct2 Try.underlying91 h
  obtain ⟨a, ha, wa⟩ := open_frac_el _ _ _ h0
  obtain ⟨b, hb, wb⟩ := open_frac_el _ _ _ h1
  rw [cells_spot] at hl
  dsimp only at ha hb
  rw [cells_frac] at ha hb
  obtain ⟨c0, c1, c2, c3, c4, c5, rfl⟩ := list6 hl
  · simp only [List.drop_zero, List.take_succ_cons, List.take_zero, List.drop_succ_cons, Fr.cells, List.cons.injEq, and_true] at ha hb
    obtain ⟨rfl, rfl, rfl⟩ := ha
    obtain ⟨rfl, rfl, rfl⟩ := hb
    exact ⟨⟨a, b⟩, rfl, wa, wb⟩

theorem open_pts {fuel : Nat} {v : Value} {x : DataW H × List MemPlace} (h : DataW.trod enc Try.prog w 0 (fun _ => true) true fuel 33 [v] = some x) :
    ∃ l : List Pt, Rd w (fun _ => True) 2 v l.length (Pts l) ∧ ∀ a ∈ l, a.ok :=
  open_list Pt.cells Pt.ok Try.underlying33 cells_pt (by decide) open_pt_el h

theorem open_spots {fuel : Nat} {v : Value} {x : DataW H × List MemPlace} (h : DataW.trod enc Try.prog w 0 (fun _ => true) true fuel 75 [v] = some x) :
    ∃ l : List Spot, Rd w (fun _ => True) 6 v l.length (Spots l) ∧ ∀ a ∈ l, a.ok :=
  open_list Spot.cells Spot.ok Try.underlying75 cells_spot (by decide) open_spot_el h
end
end Go.Proofs.Ytfdjdfobhkmlpaa
