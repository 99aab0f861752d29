/-
  From the form's reading of rows of spots to what my walks take.
-/
import Derived.Test.YthgibnmnjoniiaaOpenG
import Derived.Test.YthgibnmnjoniiaaLines
namespace Go.Proofs.Ythgibnmnjoniiaa
open Go.RowKit Go.ChangeShapes Go.WideShapes Go.Deep

section
variable {H : Type} {enc : TypeId × Value → H} {w : World}

theorem open_srow_el (m : Nat) (cs : List Value) (y : DataW H × List MemPlace) (h : DataW.trod enc Try.prog w 0 (fun _ => true) true m 29 cs = some y) :
    ∃ r : SRow, cs = [r.v] ∧ (r.rd w (fun _ => True) ∧ ∀ s ∈ r.l, s.ok) := by
  have hv : ∃ v, cs = [v] := by
    rcases open_slice Try.underlying29 h with ⟨h1, _⟩ | ⟨a, len, cap, m, k, D, Pl, h1, _⟩
    · exact ⟨_, h1⟩
    · exact ⟨_, h1⟩
  obtain ⟨v, rfl⟩ := hv
  obtain ⟨l, h1, h2⟩ := open_spots h
  exact ⟨⟨v, l⟩, rfl, h1, h2⟩

theorem flat_one {α : Type} (f : α → Value) (l : List α) : (l.flatMap fun a => [f a]) = l.map f := by
  induction l with
  | nil => rfl
  | cons a l ih => rw [List.flatMap_cons, ih]; rfl

theorem open_srows {fuel : Nat} {v : Value} {x : DataW H × List MemPlace} (h : DataW.trod enc Try.prog w 0 (fun _ => true) true fuel 41 [v] = some x) :
    ∃ l : List SRow, Rd w (fun _ => True) 1 v l.length (l.map SRow.v) ∧ ∀ r ∈ l, r.rd w (fun _ => True) ∧ ∀ s ∈ r.l, s.ok := by
  obtain ⟨l, h1, h2⟩ := open_list (size := 1) (fun r : SRow => [r.v]) (fun r => r.rd w (fun _ => True) ∧ ∀ s ∈ r.l, s.ok) Try.underlying41 (by kernel_rfl) (by decide) open_srow_el h
  rw [flat_one] at h1
  exact ⟨l, h1, h2⟩
end
end Go.Proofs.Ythgibnmnjoniiaa
