/-
  WindGroups: the law returns true for every input, and writes nothing that was there. No condition.
-/
import Derived.Test.YthgibnmnjoniiaaRows
import Derived.Test.YthgibnmnjoniiaaGroupsL
import Derived.Test.YthgibnmnjoniiaaOpenP
import Derived.Test.YthgibnmnjoniiaaOpen
namespace Go.Proofs.Ythgibnmnjoniiaa.clWindGroups
open Go.ChangeShapes Go.WideShapes Go.ChangeAt Go.RowKit

theorem own : ownKnob Try.prog.godebug = none := by kernel_rfl
theorem laidOut : laidOutB Try.prog = true := by kernel_rfl

set_option maxRecDepth 100000 in
theorem lifted (os : Os) (started : os.Started) (H : Type) (enc : TypeId × Value → H) :
    ReturnsInHanded {} Try.checked os 8 .any (Rows.windGroupsSpec.pre6 enc Try.prog Try.f8 Rows.windGroupsRow.domain false) (Rows.windGroupsSpec.post enc Try.prog Try.f8 false true false false) := by
  refine returnsInHanded_of_change (C := Try.checked) own started (by kernel_rfl) Try.func8
    (ChangeSpec.witness6 (enc := enc) (C := Try.checked) false ⟨#[], #[.slice none 0 0], []⟩ 8 (by kernel_rfl) (by kernel_rfl) (by kernel_rfl) (by kernel_rfl)) ?_
  intro W base args ds gs before hval0 hW hcnd _
  have hval : ∀ (j : Nat) t v, Try.f8.params[j]? = some t → args[j]? = some v → Value.okWide Try.prog W .any base t v := hval0
  have hW' := hW
  obtain ⟨p, q, hA0, hV, rfl, hfz, hnd⟩ := hW
  have hA : DataW.TrodAll enc Try.prog W 0 (fun _ => true) true Try.f8.params.toList args.toList ds p := hA0
  rw [Try.params8] at hA hval
  obtain ⟨v0, vs0, d0, ds0, p0, q0, hargs, rfl, rfl, h0, r0⟩ := trodAll_cons hA
  obtain ⟨rfl, rfl, rfl⟩ := trodAll_nil r0
  obtain rfl : args = #[v0] := by cases args; simp_all
  obtain ⟨rfl, rfl⟩ := trodVars_none hV
  have lt : ∀ x ∈ (p0 ++ []), x.block < W.heap.size := by
    intro x hx
    exact hW'.lt x (by simpa using hx)
  have k0 := h0
  obtain ⟨s0, n0, c0, rfl⟩ := okWide_slice Try.underlying42 (hval 0 42 v0 rfl rfl)
  obtain ⟨l0, hl0, hp0⟩ : ∃ l : List PRow, Rd W (fun _ => True) 1 (.slice s0 n0 c0) l.length (l.map PRow.v) ∧ ∀ r ∈ l, r.rd W (fun _ => True) ∧ ∀ s ∈ r.l, s.ok := by
    obtain ⟨fuel, hf⟩ := h0
    exact open_prows hf
  clear hA0 hval0
  refine windGroups_walk l0 _ _ _ W hl0 hp0 fun W' bel => ?_
  exact ⟨_, rfl, _, _, _, [], _, [], hW', trodAll_mk1 (shut_bool Try.underlying4 _), (trodAll_cons_mk (Below.trod laidOut (by kernel_rfl) (of_decide_eq_true (by kernel_rfl)) k0 bel (fun x hx => lt x (by simp [hx]))) trodAll_mk0), rfl, bel.frame _, fun h => by cases h⟩

theorem over : Rows.windGroupsRow.holds Try.pinned (OpenSpec.ofChange Rows.windGroupsSpec) :=
  OpenClaim.holds_of_wide 8 Try.f8 rfl rfl rfl rfl rfl rfl rfl ⟨rfl, rfl, rfl, rfl, rfl⟩ rfl rfl rfl rfl rfl (by kernel_rfl) Try.func8 (by kernel_rfl)
    (of_decide_eq_true (by kernel_rfl)) (by unfold Func.isWrapper; first | (rw [if_pos (by decide +kernel)]; kernel_rfl) | (rw [if_neg (by decide +kernel)]; exact ⟨rfl, rfl⟩))
    (fun os started H enc _ => lifted os started H enc)

/-- THE STATEMENT -/
theorem proved : Rows.WindGroupsSaid := over
end Go.Proofs.Ythgibnmnjoniiaa.clWindGroups
