/-
  The closed facts of the row of TopWinds, each by itself: together they go past the memory that one theorem is given.
-/
import Derived.Test.YteeeeddeacepmaaGreatDoorRows
import Derived.Test.YteeeeddeacepmaaGreatDoorCards
import Derived.JoinedOf
import Derived.SevenTiedAt
namespace Go.Proofs.YteeeeddeacepmaaGreatDoor
open Go
set_option maxRecDepth 100000
def clo : List Nat := [3, 4, 17, 5, 18, 19, 6, 20, 36, 49, 62, 63, 102, 64, 107, 154, 224, 65, 103, 149, 215, 104, 150, 216, 217, 219, 114, 157, 230, 218, 290, 359, 417, 360, 418, 105, 151, 90, 137, 106, 152, 220, 221, 222, 223, 173, 165, 166, 168, 237, 170, 240, 298, 238, 297, 239, 235, 296, 242, 241, 172, 164, 167, 169, 153, 50, 66, 68, 109, 67, 108, 155, 156, 225, 291, 288, 226, 292, 361, 293, 362, 227, 228, 229, 69, 110, 111, 112, 70, 51, 71, 72, 73, 113, 116, 159, 231, 115, 158, 117, 37, 52, 53, 74, 54, 75, 76, 77, 38, 55, 78, 118, 160, 119, 161, 232, 294, 233, 295, 234, 171, 243, 299, 120, 162, 236, 79, 82, 124, 121, 163, 80, 122, 123, 81, 83, 125, 84, 126, 174, 56, 58, 85, 127, 175, 89, 136, 206, 205, 93, 142, 212, 284, 285, 289, 355, 356, 286, 287, 357, 358, 415, 416, 91, 138, 207, 208, 276, 344, 345, 277, 209, 278, 279, 346, 347, 280, 348, 349, 414, 281, 350, 351, 282, 352, 353, 283, 354, 210, 140, 211, 139, 92, 141, 86, 128, 176, 244, 177, 245, 300, 178, 129, 130, 179, 180, 246, 181, 247, 267, 268, 330, 398, 399, 400, 401, 402, 331, 403, 404, 405, 450, 365, 182, 183, 248, 250, 249, 301, 363, 419, 420, 364, 421, 366, 423, 458, 484, 485, 486, 487, 488, 336, 409, 489, 459, 490, 509, 510, 511, 523, 531, 539, 532, 524, 512, 533, 526, 536, 525, 534, 540, 535, 527, 537, 538, 513, 454, 424, 483, 455, 422, 456, 457, 302, 367, 425, 460, 368, 426, 427, 461, 491, 322, 321, 391, 428, 462, 463, 464, 386, 492, 493, 514, 515, 388, 494, 516, 259, 317, 316, 387, 303, 304, 369, 429, 465, 495, 329, 397, 396, 305, 370, 431, 430, 308, 251, 306, 371, 432, 466, 496, 497, 467, 498, 372, 373, 433, 374, 252, 307, 309, 253, 310, 311, 312, 375, 434, 376, 435, 468, 24, 39, 499, 469, 500, 96, 144, 315, 377, 437, 438, 439, 436, 378, 440, 470, 471, 472, 474, 25, 473, 475, 501, 517, 502, 518, 528, 146, 147, 213, 97, 145, 95, 503, 60, 98, 99, 100, 148, 214, 101, 143, 94, 441, 477, 505, 476, 504, 379, 380, 9, 22, 23, 26, 40, 59, 41, 442, 254, 313, 382, 381, 383, 443, 478, 444, 479, 445, 446, 480, 269, 333, 447, 384, 448, 481, 482, 506, 519, 507, 520, 522, 529, 530, 521, 508, 385, 184, 255, 256, 314, 257, 185, 258, 186, 187, 260, 261, 262, 318, 389, 390, 319, 324, 320, 392, 323, 264, 325, 263, 131, 188, 265, 190, 326, 393, 449, 327, 394, 328, 395, 266, 189, 191, 192, 198, 193, 194, 195, 196, 270, 197, 271, 332, 406, 408, 407, 451, 272, 334, 335, 57, 87, 132, 199, 200, 133, 201, 273, 337, 338, 410, 202, 274, 339, 411, 452, 453, 275, 340, 412, 341, 342, 413, 343, 88, 135, 134, 203, 204, 10, 7, 21, 8, 12, 30, 27, 35, 42, 61, 46, 28, 43, 44, 45, 11, 29, 13, 31, 34, 14, 32, 48, 16, 47, 33, 15]
theorem cl_all : Tryz.prog.closure 3 = clo := by kernel_rfl
theorem cl_unf : Tryz.prog.unfollowed 3 = true := by
  unfold Program.unfollowed
  rw [cl_all]
  kernel_rfl
theorem range_cut {p : Nat → Bool} (a b c : Nat) (h1 : (List.range' 0 a).all p = true) (h2 : (List.range' a b).all p = true) (h3 : (List.range' (a + b) c).all p = true) : (List.range (a + b + c)).all p = true := by
  rw [List.all_eq_true] at *
  intro x hx
  rw [List.mem_range] at hx
  by_cases k1 : x < a
  · exact h1 x (List.mem_range'_1.2 ⟨by omega, by omega⟩)
  · by_cases k2 : x < a + b
    · exact h2 x (List.mem_range'_1.2 ⟨by omega, by omega⟩)
    · exact h3 x (List.mem_range'_1.2 ⟨by omega, by omega⟩)
theorem lo_1 : (List.range' 0 242).all (rowFine Tryz.prog) = true := by kernel_rfl
theorem lo_2 : (List.range' 242 242).all (rowFine Tryz.prog) = true := by kernel_rfl
theorem lo_3 : (List.range' (242 + 242) 242).all (rowFine Tryz.prog) = true := by kernel_rfl
theorem lo_n : Tryz.prog.types.size = 242 + 242 + 242 := by kernel_rfl
theorem lo_g : Tryz.prog.globals.all (fun g => decide (g.type < Tryz.prog.types.size)) = true := by kernel_rfl
theorem lo_f : Tryz.prog.funcs.all (fun f => f.params.all fun t => decide (t < Tryz.prog.types.size)) = true := by kernel_rfl
theorem lo_a : (List.range Tryz.prog.types.size).all (rowFine Tryz.prog) = true := by
  rw [lo_n]
  exact range_cut _ _ _ lo_1 lo_2 lo_3
theorem jf_0 : (Rows.topWindsRow.wf (OpenSpec.ofChange Rows.topWindsSpec)) = true := by
  kernel_rfl
theorem jf_1 : (laidOutB Tryz.prog) = true := by
  unfold laidOutB
  rw [lo_a, lo_g, lo_f]
  rfl
theorem jf_2 : (mapsRowed Tryz.prog) = true := by
  kernel_rfl
theorem jf_3 : (Tryz.f3.params.all (Tryz.prog.readableRec ·)) = true := by
  kernel_rfl
theorem jf_4 : (namedTie Tryz.prog Rows.topWindsRow.named Rows.topWindsSpec.vars) = true := by
  kernel_rfl
theorem jf_5 : ((Rows.topWindsRow.stops == [])) = true := by
  kernel_rfl
theorem jf_6 : ((Tryz.prog.stops == [])) = true := by
  kernel_rfl
theorem jf_7 : ((Rows.topWindsRow.knobs == [])) = true := by
  kernel_rfl
theorem jf_8 : ((Tryz.prog.stopKnobs == [])) = true := by
  kernel_rfl
theorem jf_9 : ((Rows.topWindsRow.inPlace == Tryz.prog.inPlace 3)) = true := by
  unfold Program.inPlace
  rw [cl_all]
  kernel_rfl
theorem jf_10 : ((Rows.topWindsRow.unfollowed == Tryz.prog.unfollowed 3)) = true := by
  rw [cl_unf]
  rfl
theorem jf_11 : ((Rows.topWindsRow.recurses == Tryz.prog.recurses 3)) = true := by
  unfold Program.recurses
  rw [cl_unf]
  rfl
theorem jf_12 : ((Rows.topWindsRow.named == Tryz.prog.varsNamed 3)) = true := by
  unfold Program.varsNamed
  rw [cl_all]
  kernel_rfl
theorem jf_13 : ((Rows.topWindsRow.maps == (Tryz.f3.params.toList ++ Rows.topWindsSpec.plain.varTypes Tryz.prog).any (Tryz.prog.mapsRec ·))) = true := by
  kernel_rfl
theorem jf_14 : ((Rows.topWindsRow.ifaces == (Tryz.f3.params.toList ++ Rows.topWindsSpec.plain.varTypes Tryz.prog).any (Tryz.prog.ifacesRec ·))) = true := by
  kernel_rfl
theorem jf_15 : ((Rows.topWindsRow.mapsOut == Tryz.prog.mapsAmong Tryz.f3.resultTypes.toList)) = true := by
  kernel_rfl
theorem jf_16 : ((Rows.topWindsRow.loops == (Tryz.f3.params.toList ++ Rows.topWindsSpec.plain.varTypes Tryz.prog).any (Tryz.prog.loopsFrom ·))) = true := by
  kernel_rfl
theorem jf_17 : ((Rows.topWindsRow.wideKeys == (Tryz.f3.params.toList ++ Rows.topWindsSpec.plain.varTypes Tryz.prog ++ Tryz.f3.resultTypes.toList).any (Tryz.prog.wideKeysFrom ·))) = true := by
  kernel_rfl
theorem jf_18 : (Rows.topWindsSpec.vars.all (Tryz.prog.varReadable ·)) = true := by
  kernel_rfl
theorem jf_19 : (Tryz.f3.resultTypes.all (fun t => Tryz.prog.readableRec t && decide (t < Tryz.prog.types.size))) = true := by
  kernel_rfl
theorem jf_20 : ((Rows.topWindsRow.ifacesOut == Tryz.f3.resultTypes.toList.any (Tryz.prog.ifacesRec ·))) = true := by
  kernel_rfl
theorem jf_21 : ((Rows.topWindsRow.loopsOut == Tryz.f3.resultTypes.toList.any (Tryz.prog.loopsFrom ·))) = true := by
  kernel_rfl
theorem jf_22 : ((Rows.topWindsRow.plainKeys == Tryz.prog.plainKeys)) = true := by
  kernel_rfl
theorem jf_23 : (Rows.topWindsRow.shortTexts.isNone) = true := by
  kernel_rfl
theorem jf_24 : (Tryz.prog.stopsHeard) = true := by
  kernel_rfl
theorem jf_25 : (Tryz.prog.mayEnter) = true := by
  kernel_rfl
theorem jf_26 : ((Rows.topWindsRow.lifted == Tryz.prog.liftsFinal)) = true := by
  kernel_rfl
theorem jf_27 : ((Tryz.prog.make == some Rows.topWindsRow.make)) = true := by
  kernel_rfl
theorem jf_28 : ((Rows.topWindsRow.kinds == (if Rows.topWindsRow.domain.isEmpty then [] else Tryz.f3.params.toList.map fun t => match Tryz.prog.underlying t with | some (.int k) => some k | _ => none))) = true := by
  kernel_rfl
theorem jf_29 : ((Rows.topWindsRow.pinned == Rows.topWindsRow.pinnedBy)) = true := by
  kernel_rfl
theorem jf_30 : ((Rows.topWindsRow.veiled == (Tryz.f3.params.toList ++ Rows.topWindsSpec.plain.varTypes Tryz.prog ++ Tryz.f3.resultTypes.toList).any (Tryz.prog.veiledRec ·))) = true := by
  kernel_rfl
theorem jf_31 : (Rows.topWindsRow.veiledFits Tryz.prog Tryz.f3.params.toList (Tryz.f3.params.toList ++ Rows.topWindsSpec.plain.varTypes Tryz.prog ++ Tryz.f3.resultTypes.toList)) = true := by
  kernel_rfl
theorem band {a b : Bool} (h : a = true) (k : b = true) : (a && b) = true := by rw [h, k]; rfl
theorem jf_all : joinedFacts Tryz.prog 3 Tryz.f3 Rows.topWindsSpec Rows.topWindsRow = true := (band (band (band (band (band (band (band (band (band (band (band (band (band (band (band (band (band (band (band (band (band (band (band (band (band (band (band (band (band (band (band jf_0 jf_1) jf_2) jf_3) jf_4) jf_5) jf_6) jf_7) jf_8) jf_9) jf_10) jf_11) jf_12) jf_13) jf_14) jf_15) jf_16) jf_17) jf_18) jf_19) jf_20) jf_21) jf_22) jf_23) jf_24) jf_25) jf_26) jf_27) jf_28) jf_29) jf_30) jf_31)
theorem tf_name : Tryz.prog.funcNamed Rows.topWindsRow.func = some 3 := by kernel_rfl
theorem tf_inst : Tryz.f3.isInstance Tryz.prog Rows.topWindsRow.origin Rows.topWindsRow.targs := of_decide_eq_true (by kernel_rfl)
theorem tf_wrap : Tryz.f3.isWrapper Tryz.prog Rows.topWindsRow.wrapper Rows.topWindsRow.mainSum := by unfold Func.isWrapper; first | (rw [if_pos (by decide +kernel)]; kernel_rfl) | (rw [if_neg (by decide +kernel)]; exact ⟨rfl, rfl⟩)
theorem tf_wf : Rows.topWindsRow.wfByText (OpenSpec.ofChange Rows.topWindsSpec) = true := by kernel_rfl
theorem tf_main : Tryz.prog.mainIs = some (Rows.topWindsCard.stood.harness.1, Rows.topWindsCard.stood.harness.2.toList) := by kernel_rfl
theorem tf_looks : true = Tryz.prog.looks [] := by kernel_rfl
theorem none_goes {P : Program} (h : P.funcs.any Func.goes = false) (f : FuncId) : P.goes f = false := by
  have k : ∀ g : Nat, (P.funcs[g]?).any Func.goes = false := fun g => by
    cases hg : P.funcs[g]? with
    | none => rfl
    | some fn =>
      cases hc : fn.goes with
      | false => exact hc
      | true =>
        obtain ⟨hl, hv⟩ := Array.getElem?_eq_some_iff.1 hg
        rw [Array.any_eq_true.2 ⟨g, hl, by rw [hv]; exact hc⟩] at h
        cases h
  unfold Program.goes
  rw [h, Bool.and_false, Bool.or_false]
  simp [k]
theorem tf_nogo : Tryz.prog.funcs.any Func.goes = false := by kernel_rfl
theorem goesBy_none {P : Program} {c : OpenClaim} {f : FuncId} (h : P.funcNamed c.func = some f) (hs : c.start = .entering) (hg : P.goes f = false) : false = c.goesBy P := by
  unfold OpenClaim.goesBy Program.goesAt Program.goesFrom
  rw [h, hs]
  simp [hg]
theorem tf_goes : false = Rows.topWindsRow.goesBy Tryz.prog := goesBy_none tf_name rfl (none_goes tf_nogo _)
theorem tf_own : ownKnob Tryz.prog.godebug = none := by kernel_rfl
theorem tf_init : Tryz.prog.inits.idxOf? 3 = none := by kernel_rfl
end Go.Proofs.YteeeeddeacepmaaGreatDoor
