/-
  PathSames: the law returns true for every input, and writes nothing that was there. No condition.
-/
import Derived.Test.YtehffeglgdcogaaRows
import Derived.Test.YtehffeglgdcogaaPSames
import Derived.Test.YtehffeglgdcogaaOpenP
import Derived.Test.YtehffeglgdcogaaOpen
namespace Go.Proofs.Ytehffeglgdcogaa.clPathSames
open Go.ChangeShapes Go.WideShapes Go.ChangeAt Go.RowKit

theorem own : ownKnob Try.prog.godebug = none := by kernel_rfl
theorem laidOut : laidOutB Try.prog = true := by kernel_rfl

set_option maxRecDepth 100000 in
theorem lifted (os : Os) (started : os.Started) (H : Type) (enc : TypeId × Value → H) :
    ReturnsInHanded {} Try.checked os 5 .any (Rows.pathSamesSpec.pre6 enc Try.prog Try.f5 Rows.pathSamesRow.domain false) (Rows.pathSamesSpec.post enc Try.prog Try.f5 false true false false) := by
  refine returnsInHanded_of_change (C := Try.checked) own started (by kernel_rfl) Try.func5
    (ChangeSpec.witness6 (enc := enc) (C := Try.checked) false ⟨#[], #[.slice none 0 0, .slice none 0 0], []⟩ 8 (by kernel_rfl) (by kernel_rfl) (by kernel_rfl) (by kernel_rfl)) ?_
  intro W base args ds gs before hval0 hW hcnd _
  have hval : ∀ (j : Nat) t v, Try.f5.params[j]? = some t → args[j]? = some v → Value.okWide Try.prog W .any base t v := hval0
  have hW' := hW
  obtain ⟨p, q, hA0, hV, rfl, hfz, hnd⟩ := hW
  have hA : DataW.TrodAll enc Try.prog W 0 (fun _ => true) true Try.f5.params.toList args.toList ds p := hA0
  rw [Try.params5] at hA hval
  obtain ⟨v0, vs0, d0, ds0, p0, q0, hargs, rfl, rfl, h0, r0⟩ := trodAll_cons hA
  obtain ⟨v1, vs1, d1, ds1, p1, q1, rfl, rfl, rfl, h1, r1⟩ := trodAll_cons r0
  obtain ⟨rfl, rfl, rfl⟩ := trodAll_nil r1
  obtain rfl : args = #[v0, v1] := by cases args; simp_all
  obtain ⟨rfl, rfl⟩ := trodVars_none hV
  have lt : ∀ x ∈ (p0 ++ (p1 ++ [])), x.block < W.heap.size := by
    intro x hx
    exact hW'.lt x (by simpa using hx)
  have k0 := h0
  have k1 := h1
  obtain ⟨s0, n0, c0, rfl⟩ := okWide_slice Try.underlying40 (hval 0 40 v0 rfl rfl)
  obtain ⟨l0, hl0, hp0⟩ : ∃ l : List PRow, Rd W (fun _ => True) 1 (.slice s0 n0 c0) l.length (l.map PRow.v) ∧ ∀ r ∈ l, r.rd W (fun _ => True) ∧ ∀ s ∈ r.l, s.ok := by
    obtain ⟨fuel, hf⟩ := h0
    exact open_prows hf
  obtain ⟨s1, n1, c1, rfl⟩ := okWide_slice Try.underlying40 (hval 1 40 v1 rfl rfl)
  obtain ⟨l1, hl1, hp1⟩ : ∃ l : List PRow, Rd W (fun _ => True) 1 (.slice s1 n1 c1) l.length (l.map PRow.v) ∧ ∀ r ∈ l, r.rd W (fun _ => True) ∧ ∀ s ∈ r.l, s.ok := by
    obtain ⟨fuel, hf⟩ := h1
    exact open_prows hf
  clear hA0 hval0
  refine pathSames_walk l0 l1 _ _ _ _ _ _ W hl0 (fun r hr => (hp0 r hr).1) hl1 (fun r hr => (hp1 r hr).1) fun W' bel => ?_
  exact ⟨_, rfl, _, _, _, [], _, [], hW', trodAll_mk1 (shut_bool Try.underlying4 _), (trodAll_cons_mk (Below.trod laidOut (by kernel_rfl) (of_decide_eq_true (by kernel_rfl)) k0 bel (fun x hx => lt x (by simp [hx]))) (trodAll_cons_mk (Below.trod laidOut (by kernel_rfl) (of_decide_eq_true (by kernel_rfl)) k1 bel (fun x hx => lt x (by simp [hx]))) trodAll_mk0)), rfl, bel.frame _, fun h => by cases h⟩

theorem over : Rows.pathSamesRow.holds Try.pinned (OpenSpec.ofChange Rows.pathSamesSpec) :=
  OpenClaim.holds_of_wide 5 Try.f5 rfl rfl rfl rfl rfl rfl rfl ⟨rfl, rfl, rfl, rfl, rfl⟩ rfl rfl rfl rfl rfl (by kernel_rfl) Try.func5 (by kernel_rfl)
    (of_decide_eq_true (by kernel_rfl)) (by unfold Func.isWrapper; first | (rw [if_pos (by decide +kernel)]; kernel_rfl) | (rw [if_neg (by decide +kernel)]; exact ⟨rfl, rfl⟩))
    (fun os started H enc _ => lifted os started H enc)

/-- THE STATEMENT -/
theorem proved : Rows.PathSamesSaid := over
end Go.Proofs.Ytehffeglgdcogaa.clPathSames
