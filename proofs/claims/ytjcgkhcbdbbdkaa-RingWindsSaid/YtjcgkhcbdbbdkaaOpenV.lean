/-
  Points and fractions that are handed by value.
-/
import Derived.Test.YtjcgkhcbdbbdkaaOpenG
namespace Go.Proofs.Ytjcgkhcbdbbdkaa
open Go.RowKit Go.ChangeShapes Go.WideShapes Go.Deep

section
variable {H : Type} {enc : TypeId × Value → H} {w : World}

set_option maxRecDepth 100000 in
theorem open_ptv {base : Nat} {v : Value} {d : DataW H} {p : List MemPlace} (hv : Value.okWide Try.prog w .any base 23 v) (h : DataW.Trod enc Try.prog w 0 (fun _ => true) true 23 v d p) : ∃ q : Pt, v = .agg q.cells.toArray ∧ q.ok := by
  obtain ⟨cs, rfl, _⟩ := okWide_struct Try.underlying23 hv
  obtain ⟨fuel, hf⟩ := h
  obtain ⟨q, hq, ok⟩ := open_pt_el fuel _ _ hf
  refine ⟨q, ?_, ok⟩
  have : cs.toList = q.cells := hq
  rw [← this]
set_option maxRecDepth 100000 in
theorem open_fracv {base : Nat} {v : Value} {d : DataW H} {p : List MemPlace} (hv : Value.okWide Try.prog w .any base 26 v) (h : DataW.Trod enc Try.prog w 0 (fun _ => true) true 26 v d p) : ∃ q : Fr, v = .agg q.cells.toArray ∧ q.ok := by
  obtain ⟨cs, rfl, _⟩ := okWide_struct Try.underlying26 hv
  obtain ⟨fuel, hf⟩ := h
  obtain ⟨q, hq, ok⟩ := open_frac_el fuel _ _ hf
  refine ⟨q, ?_, ok⟩
  have : cs.toList = q.cells := hq
  rw [← this]
end
end Go.Proofs.Ytjcgkhcbdbbdkaa
