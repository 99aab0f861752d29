/-
  From the form's reading of fields to what my walks take, with the reach.
-/
import Derived.Test.YtehffeglgdcogaaChecked
import Derived.Test.YtehffeglgdcogaaOpenS
import Derived.Test.YtehffeglgdcogaaWire4
namespace Go.Proofs.Ytehffeglgdcogaa
open Go.RowKit Go.ChangeShapes Go.WideShapes Go.Deep Go.Joins

section
variable {H : Type} {enc : TypeId × Value → H} {w : World}

theorem f_cells_int : Try.prog.cellsOf 3 = 1 := by kernel_rfl
theorem f_cells_u64 : Try.prog.cellsOf 22 = 1 := by kernel_rfl
theorem f_cells_bytes : Try.prog.cellsOf 23 = 1 := by kernel_rfl
theorem f_cells_fld : Try.prog.cellsOf 68 = 4 := by kernel_rfl
theorem f_list4 : ∀ {cs : List Value}, cs.length = 4 → ∃ a b c d, cs = [a, b, c, d]
  | [a, b, c, d], _ => ⟨a, b, c, d, rfl⟩

theorem open_fld_el (m : Nat) (cs : List Value) (y : DataW H × List MemPlace) (h : DataW.trod enc Try.prog w 0 (fun _ => true) true m 68 cs = some y) (hL : Light Try.prog 68 y.1) :
    ∃ f : Fld, cs = f.cells ∧ (f.ok w (fun _ => True) ∧ f.data.length ≤ 140737488355328) := by
  obtain ⟨y0, y1, y2, y3, n, rfl, hl, h0, h1, h2, h3⟩ := trod_struct4 Try.underlying68 h
  have hL3 := light_struct (j := 3) Try.underlying68 hL rfl rfl
  obtain ⟨a, ha, _, wa⟩ := DataW.trod_int Try.underlying3 h0
  obtain ⟨b, hb, _, wb⟩ := DataW.trod_int Try.underlying3 h1
  obtain ⟨c, hc, _, wc⟩ := DataW.trod_int Try.underlying22 h2
  rw [f_cells_fld] at hl
  dsimp only at ha hb hc h3
  rw [f_cells_int] at ha hb
  rw [f_cells_u64] at hc
  rw [f_cells_bytes] at h3
  have b0 := bounds_i64 wa
  have b1 := bounds_i64 wb
  have b2 := bounds_u64 wc
  obtain ⟨c, rfl⟩ := Int.eq_ofNat_of_zero_le b2.1
  obtain ⟨c0, c1, c2, c3, rfl⟩ := f_list4 hl
  simp only [List.drop_zero, List.take_succ_cons, List.take_zero, List.drop_succ_cons, List.cons.injEq, and_true] at ha hb hc h3
  subst ha hb hc
  obtain ⟨l, hl1, hl2⟩ := open_u8S Try.underlying23 Try.underlying5 (by kernel_rfl) (by kernel_rfl) h3 hL3
  refine ⟨⟨a, b, c, l, c3⟩, rfl, ⟨b0, b1, by show c < _; omega, hl1⟩, ?_⟩
  show l.length ≤ _
  unfold reachBytes at hl2
  omega

theorem open_flds {fuel : Nat} {v : Value} {x : DataW H × List MemPlace} (h : DataW.trod enc Try.prog w 0 (fun _ => true) true fuel 36 [v] = some x) (hL : Light Try.prog 36 x.1) :
    ∃ l : List Fld, Flds w (fun _ => True) v l ∧ ∀ f ∈ l, f.data.length ≤ 140737488355328 := by
  obtain ⟨l, h1, _, h2⟩ := open_listS Fld.cells (fun f => f.ok w (fun _ => True) ∧ f.data.length ≤ 140737488355328) Try.underlying36 f_cells_fld (by decide) open_fld_el h hL
  exact ⟨l, ⟨h1, fun f hf => (h2 f hf).1⟩, fun f hf => (h2 f hf).2⟩
end
end Go.Proofs.Ytehffeglgdcogaa
