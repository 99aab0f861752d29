import Derived.Test.YteeeeddeacepmaaGreatDoorOpenW
import Derived.Test.YteeeeddeacepmaaGreatDoorNorm
namespace Go.Proofs.YteeeeddeacepmaaGreatDoor
set_option maxRecDepth 100000
open Go.RowKit Go.ChangeShapes Go.WideShapes Go.Deep
section
variable {H : Type} {enc : TypeId × Value -> H} {w : World}
theorem cells_int : Tryz.prog.cellsOf 3 = 1 := by kernel_rfl
theorem cells_u64 : Tryz.prog.cellsOf 25 = 1 := by kernel_rfl
theorem cells_pt : Tryz.prog.cellsOf 36 = 2 := by kernel_rfl
theorem cells_frac : Tryz.prog.cellsOf 27 = 3 := by kernel_rfl
theorem list2 : ∀ {cs : List Value}, cs.length = 2 -> ∃ a b, cs = [a, b]
 | [a, b], _ => ⟨a, b, rfl⟩
theorem list3 : ∀ {cs : List Value}, cs.length = 3 -> ∃ a b c, cs = [a, b, c]
 | [a, b, c], _ => ⟨a, b, c, rfl⟩
theorem open_pt_el (m : Nat) (cs : List Value) (y : DataW H × List MemPlace) (h : DataW.trod enc Tryz.prog w 0 (fun _ => true) true m 36 cs = some y) : ∃ p : Pt, cs = p.cells /\ p.ok := by
 obtain ⟨y0, y1, n, _, hl, h0, h1⟩ := trod_struct2 Tryz.underlying36 h; obtain ⟨a, ha, _, wa⟩ := DataW.trod_int Tryz.underlying3 h0; obtain ⟨b, hb, _, wb⟩ := DataW.trod_int Tryz.underlying3 h1; rw [cells_pt] at hl; dsimp only at ha hb; rw [cells_int] at ha hb; obtain ⟨c0, c1, rfl⟩ := list2 hl
 ·simp only [List.drop_zero, List.take_succ_cons, List.take_zero, List.drop_succ_cons, List.cons.injEq, and_true] at ha hb
  subst ha hb; exact ⟨⟨a, b⟩, rfl, bounds_i64 wa, bounds_i64 wb⟩
theorem open_frac_el (m : Nat) (cs : List Value) (y : DataW H × List MemPlace) (h : DataW.trod enc Tryz.prog w 0 (fun _ => true) true m 27 cs = some y) : ∃ f : Fr, cs = f.cells /\ f.ok := by
 obtain ⟨y0, y1, y2, n, _, hl, h0, h1, h2⟩ := trod_struct3 Tryz.underlying27 h; obtain ⟨a, ha, _, wa⟩ := DataW.trod_int Tryz.underlying3 h0; obtain ⟨b, hb, _, wb⟩ := DataW.trod_int Tryz.underlying25 h1; obtain ⟨c, hc, _, wc⟩ := DataW.trod_int Tryz.underlying25 h2; rw [cells_frac] at hl; dsimp only at ha hb hc; rw [cells_int] at ha; rw [cells_u64] at hb hc; have b0 := bounds_i64 wa; have b1 := bounds_u64 wb; have b2 := bounds_u64 wc; obtain ⟨b, rfl⟩ := Int.eq_ofNat_of_zero_le b1.1; obtain ⟨c, rfl⟩ := Int.eq_ofNat_of_zero_le b2.1; obtain ⟨c0, c1, c2, rfl⟩ := list3 hl
 ·simp only [List.drop_zero, List.take_succ_cons, List.take_zero, List.drop_succ_cons, List.cons.injEq, and_true] at ha hb hc
  subst ha hb hc; exact ⟨⟨a, b, c⟩, rfl, b0.1, b0.2, by show b < _; omega, by show c < _; omega⟩
theorem open_pts {fuel : Nat} {v : Value} {x : DataW H × List MemPlace} (h : DataW.trod enc Tryz.prog w 0 (fun _ => true) true fuel 22 [v] = some x) :
  ∃ l : List Pt, Rd w (fun _ => True) 2 v l.length (Pts l) /\ ∀ a ∈ l, a.ok :=
 open_list Pt.cells Pt.ok Tryz.underlying22 cells_pt (by decide) open_pt_el h
end
end Go.Proofs.YteeeeddeacepmaaGreatDoor
namespace Go.Proofs.YteeeeddeacepmaaGreatDoor
set_option maxRecDepth 100000
open Go.RowKit Go.ChangeShapes Go.WideShapes Go.Deep
section
variable {H : Type} {enc : TypeId × Value -> H} {w : World}
theorem open_fracv {base : Nat} {v : Value} {d : DataW H} {p : List MemPlace} (hv : Value.okWide Tryz.prog w .any base 27 v) (h : DataW.Trod enc Tryz.prog w 0 (fun _ => true) true 27 v d p) : ∃ q : Fr, v = .agg q.cells.toArray /\ q.ok := by
 obtain ⟨cs, rfl, _⟩ := okWide_struct Tryz.underlying27 hv; obtain ⟨fuel, hf⟩ := h; obtain ⟨q, hq, ok⟩ := open_frac_el fuel _ _ hf; refine ⟨q, ?_, ok⟩; have : cs.toList = q.cells := hq; rw [<- this]
end
end Go.Proofs.YteeeeddeacepmaaGreatDoor
