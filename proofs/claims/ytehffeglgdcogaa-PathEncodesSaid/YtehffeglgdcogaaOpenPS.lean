/-
  From the form's reading of rows of points to what my walks take, with the reach.
-/
import Derived.Test.YtehffeglgdcogaaChecked
import Derived.Test.YtehffeglgdcogaaOpenS
import Derived.Test.YtehffeglgdcogaaOpenP
namespace Go.Proofs.Ytehffeglgdcogaa
open Go.RowKit Go.ChangeShapes Go.WideShapes Go.Deep

section
variable {H : Type} {enc : TypeId × Value → H} {w : World}

theorem open_prow_elS (m : Nat) (cs : List Value) (y : DataW H × List MemPlace) (h : DataW.trod enc Try.prog w 0 (fun _ => true) true m 75 cs = some y) (hL : Light Try.prog 75 y.1) :
    ∃ r : PRow, cs = [r.v] ∧ (r.rd w (fun _ => True) ∧ (∀ s ∈ r.l, s.ok) ∧ r.l.length ≤ 140737488355328) := by
  have hv : ∃ v, cs = [v] := by
    rcases open_slice Try.underlying75 h with ⟨h1, _⟩ | ⟨a, len, cap, m, k, D, Pl, h1, _⟩
    · exact ⟨_, h1⟩
    · exact ⟨_, h1⟩
  obtain ⟨v, rfl⟩ := hv
  have hby : Try.prog.bytesOf 77 = 16 := by kernel_rfl
  obtain ⟨l, h1, hb, h2⟩ := open_listS Pt.cells Pt.ok Try.underlying75 cells_pt (by decide) (fun m cs y h _ => open_pt_el m cs y h) h hL
  refine ⟨⟨v, l⟩, rfl, h1, h2, ?_⟩
  rw [hby] at hb
  unfold reachBytes at hb
  show l.length ≤ _
  omega

theorem open_prowsS {fuel : Nat} {v : Value} {x : DataW H × List MemPlace} (h : DataW.trod enc Try.prog w 0 (fun _ => true) true fuel 40 [v] = some x) (hL : Light Try.prog 40 x.1) :
    ∃ l : List PRow, Rd w (fun _ => True) 1 v l.length (l.map PRow.v) ∧ ∀ r ∈ l, r.rd w (fun _ => True) ∧ (∀ s ∈ r.l, s.ok) ∧ r.l.length ≤ 140737488355328 := by
  obtain ⟨l, h1, _, h2⟩ := open_listS (size := 1) (fun r : PRow => [r.v]) (fun r => r.rd w (fun _ => True) ∧ (∀ s ∈ r.l, s.ok) ∧ r.l.length ≤ 140737488355328) Try.underlying40 (by kernel_rfl) (by decide) open_prow_elS h hL
  rw [flat_one] at h1
  exact ⟨l, h1, h2⟩
end
end Go.Proofs.Ytehffeglgdcogaa
