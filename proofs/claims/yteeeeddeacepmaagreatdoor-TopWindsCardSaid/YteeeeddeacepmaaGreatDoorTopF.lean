/-
  The closed facts of the row of TopWinds, each by itself: together they go past the memory that one theorem is given.
-/
import Derived.Test.YteeeeddeacepmaaGreatDoorRows
import Derived.Test.YteeeeddeacepmaaGreatDoorCards
import Derived.JoinedOf
import Derived.SevenTiedAt
namespace Go.Proofs.YteeeeddeacepmaaGreatDoor
open Go
set_option maxRecDepth 100000
theorem jf_0 : (Rows.topWindsRow.wf (OpenSpec.ofChange Rows.topWindsSpec)) = true := by kernel_rfl
theorem jf_1 : (laidOutB Tryz.prog) = true := by kernel_rfl
theorem jf_2 : (mapsRowed Tryz.prog) = true := by kernel_rfl
theorem jf_3 : (Tryz.f3.params.all (Tryz.prog.readableRec ·)) = true := by kernel_rfl
theorem jf_4 : (namedTie Tryz.prog Rows.topWindsRow.named Rows.topWindsSpec.vars) = true := by kernel_rfl
theorem jf_5 : ((Rows.topWindsRow.stops == [])) = true := by kernel_rfl
theorem jf_6 : ((Tryz.prog.stops == [])) = true := by kernel_rfl
theorem jf_7 : ((Rows.topWindsRow.knobs == [])) = true := by kernel_rfl
theorem jf_8 : ((Tryz.prog.stopKnobs == [])) = true := by kernel_rfl
theorem jf_9 : ((Rows.topWindsRow.inPlace == Tryz.prog.inPlace 3)) = true := by kernel_rfl
theorem jf_10 : ((Rows.topWindsRow.unfollowed == Tryz.prog.unfollowed 3)) = true := by kernel_rfl
theorem jf_11 : ((Rows.topWindsRow.recurses == Tryz.prog.recurses 3)) = true := by kernel_rfl
theorem jf_12 : ((Rows.topWindsRow.named == Tryz.prog.varsNamed 3)) = true := by kernel_rfl
theorem jf_13 : ((Rows.topWindsRow.maps == (Tryz.f3.params.toList ++ Rows.topWindsSpec.plain.varTypes Tryz.prog).any (Tryz.prog.mapsRec ·))) = true := by kernel_rfl
theorem jf_14 : ((Rows.topWindsRow.ifaces == (Tryz.f3.params.toList ++ Rows.topWindsSpec.plain.varTypes Tryz.prog).any (Tryz.prog.ifacesRec ·))) = true := by kernel_rfl
theorem jf_15 : ((Rows.topWindsRow.mapsOut == Tryz.prog.mapsAmong Tryz.f3.resultTypes.toList)) = true := by kernel_rfl
theorem jf_16 : ((Rows.topWindsRow.loops == (Tryz.f3.params.toList ++ Rows.topWindsSpec.plain.varTypes Tryz.prog).any (Tryz.prog.loopsFrom ·))) = true := by kernel_rfl
theorem jf_17 : ((Rows.topWindsRow.wideKeys == (Tryz.f3.params.toList ++ Rows.topWindsSpec.plain.varTypes Tryz.prog ++ Tryz.f3.resultTypes.toList).any (Tryz.prog.wideKeysFrom ·))) = true := by kernel_rfl
theorem jf_18 : (Rows.topWindsSpec.vars.all (Tryz.prog.varReadable ·)) = true := by kernel_rfl
theorem jf_19 : (Tryz.f3.resultTypes.all (fun t => Tryz.prog.readableRec t && decide (t < Tryz.prog.types.size))) = true := by kernel_rfl
theorem jf_20 : ((Rows.topWindsRow.ifacesOut == Tryz.f3.resultTypes.toList.any (Tryz.prog.ifacesRec ·))) = true := by kernel_rfl
theorem jf_21 : ((Rows.topWindsRow.loopsOut == Tryz.f3.resultTypes.toList.any (Tryz.prog.loopsFrom ·))) = true := by kernel_rfl
theorem jf_22 : ((Rows.topWindsRow.plainKeys == Tryz.prog.plainKeys)) = true := by kernel_rfl
theorem jf_23 : (Rows.topWindsRow.shortTexts.isNone) = true := by kernel_rfl
theorem jf_24 : (Tryz.prog.stopsHeard) = true := by kernel_rfl
theorem jf_25 : (Tryz.prog.mayEnter) = true := by kernel_rfl
theorem jf_26 : ((Rows.topWindsRow.lifted == Tryz.prog.liftsFinal)) = true := by kernel_rfl
theorem jf_27 : ((Tryz.prog.make == some Rows.topWindsRow.make)) = true := by kernel_rfl
theorem jf_28 : ((Rows.topWindsRow.kinds == (if Rows.topWindsRow.domain.isEmpty then [] else Tryz.f3.params.toList.map fun t => match Tryz.prog.underlying t with | some (.int k) => some k | _ => none))) = true := by kernel_rfl
theorem jf_29 : ((Rows.topWindsRow.pinned == Rows.topWindsRow.pinnedBy)) = true := by kernel_rfl
theorem jf_30 : ((Rows.topWindsRow.veiled == (Tryz.f3.params.toList ++ Rows.topWindsSpec.plain.varTypes Tryz.prog ++ Tryz.f3.resultTypes.toList).any (Tryz.prog.veiledRec ·))) = true := by kernel_rfl
theorem jf_31 : (Rows.topWindsRow.veiledFits Tryz.prog Tryz.f3.params.toList (Tryz.f3.params.toList ++ Rows.topWindsSpec.plain.varTypes Tryz.prog ++ Tryz.f3.resultTypes.toList)) = true := by kernel_rfl
theorem band {a b : Bool} (h : a = true) (k : b = true) : (a && b) = true := by rw [h, k]; rfl
theorem jf_all : joinedFacts Tryz.prog 3 Tryz.f3 Rows.topWindsSpec Rows.topWindsRow = true := (band (band (band (band (band (band (band (band (band (band (band (band (band (band (band (band (band (band (band (band (band (band (band (band (band (band (band (band (band (band (band jf_0 jf_1) jf_2) jf_3) jf_4) jf_5) jf_6) jf_7) jf_8) jf_9) jf_10) jf_11) jf_12) jf_13) jf_14) jf_15) jf_16) jf_17) jf_18) jf_19) jf_20) jf_21) jf_22) jf_23) jf_24) jf_25) jf_26) jf_27) jf_28) jf_29) jf_30) jf_31)
theorem tf_name : Tryz.prog.funcNamed Rows.topWindsRow.func = some 3 := by kernel_rfl
theorem tf_inst : Tryz.f3.isInstance Tryz.prog Rows.topWindsRow.origin Rows.topWindsRow.targs := of_decide_eq_true (by kernel_rfl)
theorem tf_wrap : Tryz.f3.isWrapper Tryz.prog Rows.topWindsRow.wrapper Rows.topWindsRow.mainSum := by unfold Func.isWrapper; first | (rw [if_pos (by decide +kernel)]; kernel_rfl) | (rw [if_neg (by decide +kernel)]; exact ⟨rfl, rfl⟩)
theorem tf_wf : Rows.topWindsRow.wfByText (OpenSpec.ofChange Rows.topWindsSpec) = true := by kernel_rfl
theorem tf_main : Tryz.prog.mainIs = some (Rows.topWindsCard.stood.harness.1, Rows.topWindsCard.stood.harness.2.toList) := by kernel_rfl
theorem tf_looks : true = Tryz.prog.looks [] := by kernel_rfl
theorem none_goes {P : Program} (h : P.funcs.any Func.goes = false) (f : FuncId) : P.goes f = false := by
  have k : ∀ g : Nat, (P.funcs[g]?).any Func.goes = false := fun g => by
    cases hg : P.funcs[g]? with
    | none => rfl
    | some fn =>
      cases hc : fn.goes with
      | false => exact hc
      | true =>
        obtain ⟨hl, hv⟩ := Array.getElem?_eq_some_iff.1 hg
        rw [Array.any_eq_true.2 ⟨g, hl, by rw [hv]; exact hc⟩] at h
        cases h
  unfold Program.goes
  rw [h, Bool.and_false, Bool.or_false]
  simp [k]
theorem tf_nogo : Tryz.prog.funcs.any Func.goes = false := by kernel_rfl
theorem goesBy_none {P : Program} {c : OpenClaim} {f : FuncId} (h : P.funcNamed c.func = some f) (hs : c.start = .entering) (hg : P.goes f = false) : false = c.goesBy P := by
  unfold OpenClaim.goesBy Program.goesAt Program.goesFrom
  rw [h, hs]
  simp [hg]
theorem tf_goes : false = Rows.topWindsRow.goesBy Tryz.prog := goesBy_none tf_name rfl (none_goes tf_nogo _)
theorem tf_own : ownKnob Tryz.prog.godebug = none := by kernel_rfl
theorem tf_init : Tryz.prog.inits.idxOf? 3 = none := by kernel_rfl
end Go.Proofs.YteeeeddeacepmaaGreatDoor
