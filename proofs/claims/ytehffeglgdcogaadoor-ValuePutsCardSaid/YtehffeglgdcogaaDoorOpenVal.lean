/-
  Values that are handed by value; what the tables hold, and a world that holds them.
-/
import Derived.Test.YtehffeglgdcogaaDoorRows
import Derived.Test.YtehffeglgdcogaaDoorOpen
import Derived.Test.YtehffeglgdcogaaDoorVRight
import Derived.LaidMore
import Derived.MakeChecks
import Derived.Lib.LaidIn
import Derived.Lib.LaidU8T
import Derived.Deep.Strs
namespace Go.Proofs.YtehffeglgdcogaaDoor
open Go.RowKit Go.ChangeShapes Go.WideShapes Go.Deep

section
variable {H : Type} {enc : TypeId × Value → H} {w : World}
theorem v_cells_int : Tryd.prog.cellsOf 3 = 1 := by kernel_rfl
theorem v_cells_str : Tryd.prog.cellsOf 9 = 1 := by kernel_rfl
theorem v_cells_u64 : Tryd.prog.cellsOf 22 = 1 := by kernel_rfl
theorem v_cells_val : Tryd.prog.cellsOf 24 = 3 := by kernel_rfl
theorem v_list3 : ∀ {cs : List Value}, cs.length = 3 → ∃ a b c, cs = [a, b, c]
  | [a, b, c], _ => ⟨a, b, c, rfl⟩
set_option maxRecDepth 100000 in
theorem open_val_el (m : Nat) (cs : List Value) (y : DataW H × List MemPlace) (h : DataW.trod enc Tryd.prog w 0 (fun _ => true) true m 24 cs = some y) :
    ∃ x : Val, cs = [.int .i64 x.k, .string x.t, .int .u64 x.b] ∧ I64 x.k ∧ U64 x.b ∧ x.t.size ≤ maxLen := by
  obtain ⟨y0, y1, y2, n, rfl, hl, h0, h1, h2⟩ := trod_struct3 Tryd.underlying24 h
  obtain ⟨a, ha, _, wa⟩ := DataW.trod_int Tryd.underlying3 h0
  obtain ⟨s, hs, _, ws⟩ := DataW.trod_string Tryd.underlying9 h1
  obtain ⟨c, hc, _, wc⟩ := DataW.trod_int Tryd.underlying22 h2
  rw [v_cells_val] at hl
  dsimp only at ha hs hc
  rw [v_cells_int] at ha
  rw [v_cells_str] at hs
  rw [v_cells_u64] at hc
  obtain ⟨c0, c1, c2, rfl⟩ := v_list3 hl
  simp only [List.drop_zero, List.take_succ_cons, List.take_zero, List.drop_succ_cons, List.cons.injEq, and_true] at ha hs hc
  subst ha hs hc
  exact ⟨⟨a, s, c⟩, rfl, bounds_i64 wa, bounds_u64 wc, ws⟩
set_option maxRecDepth 100000 in
theorem open_valv {base : Nat} {v : Value} {d : DataW H} {p : List MemPlace} (hv : Value.okWide Tryd.prog w .any base 24 v) (h : DataW.Trod enc Tryd.prog w 0 (fun _ => true) true 24 v d p) : ∃ x : Val, v = x.v ∧ I64 x.k ∧ U64 x.b ∧ x.t.size ≤ maxLen := by
  obtain ⟨cs, rfl, _⟩ := okWide_struct Tryd.underlying24 hv
  obtain ⟨fuel, hf⟩ := h
  obtain ⟨x, hx, ok⟩ := open_val_el fuel _ _ hf
  refine ⟨x, ?_, ok⟩
  have : cs.toList = [.int .i64 x.k, .string x.t, .int .u64 x.b] := hx
  unfold Val.v
  rw [← this]
end

/- the tables -/
def laidL : List (String × DataW Unit) := Rows.valueOrdersRow.laid
theorem laid_accept : (Rows.laid_unicode_utf8_acceptRanges : DataW Unit) = Lib.acceptData := by kernel_rfl
theorem laid_first : Rows.laid_unicode_utf8_first = Lib.firstData := by kernel_rfl
set_option maxRecDepth 100000 in
theorem tabs_of_laid {W : World} (h : laidMetH Tryd.prog laidL W) : Tabs W := by
  rw [MakeChecks.laidMetH_plain _ _ _ (by kernel_rfl)] at h
  have h1 := Lib.laidMet.reads h (.head _)
  have h2 := Lib.laidMet.reads h (.tail _ (.head _))
  rw [laid_accept] at h1
  rw [laid_first] at h2
  exact Go.Proofs.utf8Tabs_of_readsT (Go.Proofs.U8Types.of196 Tryd.laysValid) ⟨by kernel_rfl, by kernel_rfl, by kernel_rfl, by kernel_rfl, by kernel_rfl, by kernel_rfl, by kernel_rfl⟩ h2 h1

/-- THE WITNESS: the settled world, the two variables holding what their initialisers lay. -/
noncomputable def laidWorld (os : Os) : World :=
  let w0 := World.holding Tryd.prog os ⟨#[], #[], []⟩
  let put (h : Array Obj) (g : Nat) (cs : Array Value) : Array Obj := h.modify g fun
    | .cells _ t frozen => .cells cs t frozen
    | o => o
  let h1 := put w0.heap 0 (Lib.firstTab.map fun z => Value.int .u8 z).toArray
  let h2 := put h1 1 ((List.range 16).flatMap fun i => [Value.int .u8 (Lib.accLo i), Value.int .u8 (Lib.accHi i)]).toArray
  { w0 with heap := h2 }
set_option maxRecDepth 100000 in
theorem laid_met (os : Os) (args : Array Value) : laidMetH Tryd.prog laidL ((laidWorld os).forCall (fun _ _ => 0) ⟨#[], args, []⟩).memory := by
  rw [MakeChecks.laidMetH_plain _ _ _ (by kernel_rfl)]
  exact (LaidIn.of_run (l := laidL) [0, 1] 8 (by kernel_rfl) (by kernel_rfl) (by kernel_rfl) (by kernel_rfl)).met
end Go.Proofs.YtehffeglgdcogaaDoor
