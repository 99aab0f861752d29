/-
  PathEncodes: the law returns true for every input, and writes nothing that was there. No condition.
-/
import Derived.Test.YtehffeglgdcogaaRows
import Derived.Test.YtehffeglgdcogaaPLaws2
import Derived.Test.YtehffeglgdcogaaOpenPS
import Derived.Test.YtehffeglgdcogaaOpen
namespace Go.Proofs.Ytehffeglgdcogaa.clPathEncodes
open Go.ChangeShapes Go.WideShapes Go.ChangeAt Go.RowKit

theorem own : ownKnob Try.prog.godebug = none := by kernel_rfl
theorem laidOut : laidOutB Try.prog = true := by kernel_rfl

set_option maxRecDepth 100000 in
theorem lifted (os : Os) (started : os.Started) (H : Type) (enc : TypeId × Value → H) :
    ReturnsInHanded {} Try.checked os 8 .any (Rows.pathEncodesSpec.pre6 enc Try.prog Try.f8 Rows.pathEncodesRow.domain false) (Rows.pathEncodesSpec.post enc Try.prog Try.f8 false true false false) := by
  refine returnsInHanded_of_change_sized (C := Try.checked) own started (by kernel_rfl) Try.func8
    (ChangeSpec.witness6 (enc := enc) (C := Try.checked) false ⟨#[], #[.int .i64 0, .slice none 0 0], []⟩ 8 (by kernel_rfl) (by kernel_rfl) (by kernel_rfl) (by kernel_rfl)) ?_
  intro W base args ds gs before hval0 hW hcnd hZ0 _
  have hval : ∀ (j : Nat) t v, Try.f8.params[j]? = some t → args[j]? = some v → Value.okWide Try.prog W .any base t v := hval0
  have hW' := hW
  obtain ⟨p, q, hA0, hV, rfl, hfz, hnd⟩ := hW
  have hA : DataW.TrodAll enc Try.prog W 0 (fun _ => true) true Try.f8.params.toList args.toList ds p := hA0
  have hZ := hZ0
  rw [Try.params8] at hA hval hZ
  obtain ⟨v0, vs0, d0, ds0, p0, q0, hargs, rfl, rfl, h0, r0⟩ := trodAll_cons hA
  obtain ⟨v1, vs1, d1, ds1, p1, q1, rfl, rfl, rfl, h1, r1⟩ := trodAll_cons r0
  obtain ⟨rfl, rfl, rfl⟩ := trodAll_nil r1
  obtain rfl : args = #[v0, v1] := by cases args; simp_all
  obtain ⟨rfl, rfl⟩ := trodVars_none hV
  have lt : ∀ x ∈ (p0 ++ (p1 ++ [])), x.block < W.heap.size := by
    intro x hx
    exact hW'.lt x (by simpa using hx)
  have k0 := h0
  have k1 := h1
  obtain ⟨a0, rfl, _, _, w0⟩ := open_int Try.underlying3 (hval 0 3 v0 rfl rfl) h0
  have b0 := bounds_i64 w0
  obtain ⟨s1, n1, c1, rfl⟩ := okWide_slice Try.underlying40 (hval 1 40 v1 rfl rfl)
  obtain ⟨l1, hl1, hp1⟩ : ∃ l : List PRow, Rd W (fun _ => True) 1 (.slice s1 n1 c1) l.length (l.map PRow.v) ∧ ∀ r ∈ l, r.rd W (fun _ => True) ∧ (∀ s ∈ r.l, s.ok) ∧ r.l.length ≤ 140737488355328 := by
    obtain ⟨fuel, hf⟩ := h1
    exact open_prowsS hf (light_of hZ (j := 1) rfl rfl)
  clear hA0 hval0 hZ hZ0
  refine pathEncodes_walk a0 l1 _ _ _ W hl1 (fun r hr => (hp1 r hr).1) (fun r hr => (hp1 r hr).2.2) fun W' bel => ?_
  exact ⟨_, rfl, _, _, _, [], _, [], hW', trodAll_mk1 (shut_bool Try.underlying4 _), (trodAll_cons_mk (Below.trod laidOut (by kernel_rfl) (of_decide_eq_true (by kernel_rfl)) k0 bel (fun x hx => lt x (by simp [hx]))) (trodAll_cons_mk (Below.trod laidOut (by kernel_rfl) (of_decide_eq_true (by kernel_rfl)) k1 bel (fun x hx => lt x (by simp [hx]))) trodAll_mk0)), rfl, bel.frame _, fun h => by cases h⟩

theorem over : Rows.pathEncodesRow.holds Try.pinned (OpenSpec.ofChange Rows.pathEncodesSpec) :=
  OpenClaim.holds_of_wide 8 Try.f8 rfl rfl rfl rfl rfl rfl rfl ⟨rfl, rfl, rfl, rfl, rfl⟩ rfl rfl rfl rfl rfl (by kernel_rfl) Try.func8 (by kernel_rfl)
    (of_decide_eq_true (by kernel_rfl)) (by unfold Func.isWrapper; first | (rw [if_pos (by decide +kernel)]; kernel_rfl) | (rw [if_neg (by decide +kernel)]; exact ⟨rfl, rfl⟩))
    (fun os started H enc _ => lifted os started H enc)

/-- THE STATEMENT -/
theorem proved : Rows.PathEncodesSaid := over
end Go.Proofs.Ytehffeglgdcogaa.clPathEncodes
