/-
 TopWinds: the law returns true for every input, and writes nothing that was there; what the row lists of the package variables is tied to the text of the program. No other condition.
-/
import Derived.Test.YteeeeddeacepmaaGreatDoorTieW
import Derived.Test.YteeeeddeacepmaaGreatDoorTopF
import Derived.Test.YteeeeddeacepmaaGreatDoorTWinds
import Derived.Test.YteeeeddeacepmaaGreatDoorLvLive
import Derived.Test.YteeeeddeacepmaaGreatDoorOpenGV
import Derived.Test.YteeeeddeacepmaaGreatDoorOpenVal
import Derived.Stop.Joined
namespace Go.Proofs.YteeeeddeacepmaaGreatDoor.clTopWinds
set_option maxRecDepth 100000
open Go.ChangeShapes Go.WideShapes Go.ChangeAt Go.RowKit
abbrev wit : Array Value := #[.slice none 0 0, .int .u8 0, .int .u32 0, .int .u32 0, .int .u16 0, .int .u8 0, .agg #[.int .i64 0, .int .u64 0, .int .u64 0], .agg #[.int .i64 0, .int .u64 0, .int .u64 0]]
theorem w_ok (os : Os) : Input.okWideB Tryz.prog ((laidWorld os).forCall (fun _ _ => 0) ⟨#[], wit, []⟩) 3 ⟨#[], wit, []⟩ = true := by kernel_rfl
theorem w_pre (os : Os) (H : Type) (enc : TypeId × Value -> H) : Rows.topWindsSpec.preB enc Tryz.prog Tryz.f3 [] false ((laidWorld os).forCall (fun _ _ => 0) ⟨#[], wit, []⟩).memory wit 8 = true := by kernel_rfl
theorem w_sz (os : Os) (H : Type) (enc : TypeId × Value -> H) : Rows.topWindsSpec.sizedB enc Tryz.prog Tryz.f3 false ((laidWorld os).forCall (fun _ _ => 0) ⟨#[], wit, []⟩).memory wit 8 = true := by kernel_rfl
theorem lifted (os : Os) (started : os.Started) (H : Type) (enc : TypeId × Value -> H) :
  ReturnsInHanded {} Tryz.checked os 3 .any (fun w args => (Rows.topWindsSpec.pre enc Tryz.prog Tryz.f3 [] false w args /\ laidMetH Tryz.prog laidL w) /\ sizedMet enc Tryz.prog Tryz.f3 (OpenSpec.ofChange Rows.topWindsSpec) false w args)
   (Rows.topWindsSpec.post enc Tryz.prog Tryz.f3 false true false false) := by
 refine handed_shaped (C := Tryz.checked) (X := fun w _ => laidMetH Tryz.prog laidL w) (fun _ _ _ hh h => h.of_heap hh) tf_own started tf_init Tryz.func3
  (ChangeSpec.witness_shaped (enc := enc) (C := Tryz.checked) (os := os) (X := fun w _ => laidMetH Tryz.prog laidL w) false (laidWorld os) wit 8 (World.laidAll_os _ _ _) (laid_shaped os wit) (w_ok os) (w_pre os H enc) (w_sz os H enc) (laid_met os _)) ?_
 intro W base args ds gs before hval0 hW hL hsh; have hval : ∀ (j : Nat) t v, Tryz.f3.params[j]? = some t -> args[j]? = some v -> Value.okWide Tryz.prog W .any base t v := hval0; have hW' := hW; obtain ⟨p, q, hA0, hV, rfl, hfz, hnd⟩ := hW; have hA : DataW.TrodAll enc Tryz.prog W 0 (fun _ => true) true Tryz.f3.params.toList args.toList ds p := hA0; rw [Tryz.params3] at hA hval; obtain ⟨v0, vs0, d0, ds0, p0, q0, hargs, rfl, rfl, h0, r0⟩ := trodAll_cons hA; obtain ⟨v1, vs1, d1, ds1, p1, q1, rfl, rfl, rfl, h1, r1⟩ := trodAll_cons r0
 obtain ⟨v2, vs2, d2, ds2, p2, q2, rfl, rfl, rfl, h2, r2⟩ := trodAll_cons r1; obtain ⟨v3, vs3, d3, ds3, p3, q3, rfl, rfl, rfl, h3, r3⟩ := trodAll_cons r2; obtain ⟨v4, vs4, d4, ds4, p4, q4, rfl, rfl, rfl, h4, r4⟩ := trodAll_cons r3; obtain ⟨v5, vs5, d5, ds5, p5, q5, rfl, rfl, rfl, h5, r5⟩ := trodAll_cons r4; obtain ⟨v6, vs6, d6, ds6, p6, q6, rfl, rfl, rfl, h6, r6⟩ := trodAll_cons r5; obtain ⟨v7, vs7, d7, ds7, p7, q7, rfl, rfl, rfl, h7, r7⟩ := trodAll_cons r6; obtain ⟨rfl, rfl, rfl⟩ := trodAll_nil r7; obtain rfl : args = #[v0, v1, v2, v3, v4, v5, v6, v7] := by cases args; simp_all
 obtain ⟨rfl, rfl⟩ := trodVars_none hV
 have lt : ∀ x ∈ (p0 ++ (p1 ++ (p2 ++ (p3 ++ (p4 ++ (p5 ++ (p6 ++ (p7 ++ [])))))))), x.block < W.heap.size := by
  intro x hx; exact hW'.lt x (by simpa using hx)
 have k0 := h0; have k1 := h1; have k2 := h2; have k3 := h3; have k4 := h4; have k5 := h5; have k6 := h6; have k7 := h7; obtain ⟨s0, n0, c0, rfl⟩ := okWide_slice Tryz.underlying22 (hval 0 22 v0 rfl rfl)
 obtain ⟨l0, hl0, hp0⟩ : ∃ l : List Pt, Rd W (fun _ => True) 2 (.slice s0 n0 c0) l.length (Pts l) /\ ∀ a ∈ l, a.ok := by
  obtain ⟨fuel, hf⟩ := h0; exact open_pts hf
 obtain ⟨a1, rfl, _, _, w1⟩ := open_int Tryz.underlying5 (hval 1 5 v1 rfl rfl) h1; have b1 := bounds_u8 w1; obtain ⟨a2, rfl, _, _, w2⟩ := open_int Tryz.underlying23 (hval 2 23 v2 rfl rfl) h2; have b2 := bounds_u32 w2; obtain ⟨a3, rfl, _, _, w3⟩ := open_int Tryz.underlying23 (hval 3 23 v3 rfl rfl) h3; have b3 := bounds_u32 w3; obtain ⟨a4, rfl, _, _, w4⟩ := open_int Tryz.underlying24 (hval 4 24 v4 rfl rfl) h4; have b4 := bounds_u16 w4; obtain ⟨a5, rfl, _, _, w5⟩ := open_int Tryz.underlying5 (hval 5 5 v5 rfl rfl) h5; have b5 := bounds_u8 w5
 obtain ⟨l6, rfl, hp6⟩ := open_fracv (hval 6 27 v6 rfl rfl) h6; obtain ⟨l7, rfl, hp7⟩ := open_fracv (hval 7 27 v7 rfl rfl) h7; have hT := ten_of_laid hL; have hM := max_of_shaped hsh; clear hA0 hval0; refine topWinds_walk l0 a1 a2 a3 a4 a5 l6 l7 _ _ W hl0 hp0 b1 b2 b3 b4 b5 hp6 hp7 (fun V hV R hR => live_q V (hM.gr hV) (hT.gr hV) hR) fun W' bel => ?_
 exact ⟨_, rfl, _, _, _, [], _, [], hW', trodAll_mk1 (shut_bool Tryz.underlying4 _), (trodAll_cons_mk (Below.trod jf_1 (by kernel_rfl) (of_decide_eq_true (by kernel_rfl)) k0 bel (fun x hx => lt x (by simp [hx]))) (trodAll_cons_mk (Below.trod jf_1 (by kernel_rfl) (of_decide_eq_true (by kernel_rfl)) k1 bel (fun x hx => lt x (by simp [hx]))) (trodAll_cons_mk (Below.trod jf_1 (by kernel_rfl) (of_decide_eq_true (by kernel_rfl)) k2 bel (fun x hx => lt x (by simp [hx]))) (trodAll_cons_mk (Below.trod jf_1 (by kernel_rfl) (of_decide_eq_true (by kernel_rfl)) k3 bel (fun x hx => lt x (by simp [hx]))) (trodAll_cons_mk (Below.trod jf_1 (by kernel_rfl) (of_decide_eq_true (by kernel_rfl)) k4 bel (fun x hx => lt x (by simp [hx]))) (trodAll_cons_mk (Below.trod jf_1 (by kernel_rfl) (of_decide_eq_true (by kernel_rfl)) k5 bel (fun x hx => lt x (by simp [hx]))) (trodAll_cons_mk (Below.trod jf_1 (by kernel_rfl) (of_decide_eq_true (by kernel_rfl)) k6 bel (fun x hx => lt x (by simp [hx]))) (trodAll_cons_mk (Below.trod jf_1 (by kernel_rfl) (of_decide_eq_true (by kernel_rfl)) k7 bel (fun x hx => lt x (by simp [hx]))) trodAll_mk0)))))))), rfl, bel.frame _, fun h => by cases h⟩
theorem over : Rows.TopWindsSaid :=
 OpenClaim.holds_of_wide 3 Tryz.f3 rfl rfl rfl rfl rfl rfl rfl ⟨rfl, rfl, rfl, rfl, rfl⟩ rfl rfl rfl rfl rfl tf_name Tryz.func3 jf_all
  tf_inst tf_wrap
  (fun os started H enc _ => lifted os started H enc)
theorem no_standin : ([22, 5, 23, 23, 24, 5, 27, 27].all fun u => !Tryz.prog.wantsStandIn u) = true := by kernel_rfl
theorem proved : Rows.TopWindsCardSaid :=
 Claim7.holds_tied_plain_at .later [] [.pinned, .data, .data, .data, .data, .sentinel, .sentinel] true Rows.topWindsCard.stood.harness true
  over (fun _ h => by cases h) tf_wf (fun _ h => by cases h) topWinds_row_tie rfl ⟨rfl, rfl⟩ tf_main rfl
  (fun f fn hf hfn => by
   obtain rfl : f = 3 := Option.some.inj (tf_name.symm.trans hf) |>.symm
   obtain rfl : fn = Tryz.f3 := (Option.some.inj (Tryz.func3.symm.trans hfn)).symm
   exact ⟨tf_looks, fun j t ht => by
    rw [Tryz.params3] at ht; have hm : t ∈ [22, 5, 23, 23, 24, 5, 27, 27] := by simpa using Array.mem_of_getElem? ht
    exact (show Tryz.prog.wantsStandIn t = false by simpa using List.all_eq_true.1 no_standin t hm)⟩)
  tf_goes
end Go.Proofs.YteeeeddeacepmaaGreatDoor.clTopWinds
