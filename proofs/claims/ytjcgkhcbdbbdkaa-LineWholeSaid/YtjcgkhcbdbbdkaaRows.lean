/-
  No cell of these rows narrows 'for every input' (looked for: loops, veiled, ifaces, maps, wideKeys, modest, calm, conditions, laid).
  DERIVED. THE GIVEN ROWS OF THIS SEAT. 8 by the template 'for every input the law returns true; each argument reads behind the call as it read before'; 0 by the template 'total and deterministic' (their statements: YtjcgkhcbdbbdkaaTotals.lean).
  GIVEN WITH THE SEED: the statements are not yours to turn. If you find one false, say at which input.
  Laid BY PROGRAM, IN A SANDBOX (cutbox-rows.mjs): the forced cells as the released guide's own fill.sh prints them over the translation 4f20ffcd2f0bbd38… (all of the seat's roots in one cut). By AI agents, Wed Nov 11 2026. No macro, syntax, notation, axiom, sorry.
-/
import Derived.Test.YtjcgkhcbdbbdkaaChecked
import GoSem.Claim
import GoSem.ClaimJoined
import GoSem.ClaimMapViews
import Derived.JoinedTies
import Derived.KernelRfl
namespace Go.Proofs.Ytjcgkhcbdbbdkaa
/- THE CELL 'sum', in the pinned program and in every row, IS THE sha256 OF THE DUMP (.gsa) THAT YtjcgkhcbdbbdkaaProg.lean LOADS. Nothing in Lean hashes anything: it is a label: what it is worth is what the hold of that sum in a sandbox is worth. -/
noncomputable def Try.pinned : Pinned := { name := "ytjcgkhcbdbbdkaa", sum := "4f20ffcd2f0bbd38485c341b2496a7754e028283816733798b5ae90e8a181442", checked := Try.checked }
namespace Rows
def none {H : Type} : Left H := { results := [], args := [] }

/-- 'portolanlaw24.LineSegments': WHATEVER THE INPUT: true; the input reads as it did. -/
def lineSegmentsSpec : ChangeSpec := { name := "lineSegments", fn := fun _ => fun
  | [d1, d2, d3, d4] => { results := [.lit (.bool true)], args := [d1, d2, d3, d4] }
  | _ => none }
def lineSegmentsRow : OpenClaim := { program := "ytjcgkhcbdbbdkaa", sum := "4f20ffcd2f0bbd38485c341b2496a7754e028283816733798b5ae90e8a181442", func := "portolan/portolanlaw24.LineSegments", spec := "lineSegments", unfollowed := true, recurses := true, named := ["math/bits.divideError", "math/bits.overflowError"], apart := false }
def LineSegmentsSaid : Prop := lineSegmentsRow.holds Try.pinned (OpenSpec.ofChange lineSegmentsSpec)

/-- ITS FALSE NEIGHBOUR: 'it returns false'. Refute it at one input. -/
def lineSegmentsWrong : ChangeSpec := { name := "lineSegments", fn := fun _ => fun
  | [d1, d2, d3, d4] => { results := [.lit (.bool false)], args := [d1, d2, d3, d4] }
  | _ => none }
def LineSegmentsWrongFalsely : Prop := lineSegmentsRow.holds Try.pinned (OpenSpec.ofChange lineSegmentsWrong)

/-- 'portolanlaw25.RingClips': WHATEVER THE INPUT: true; the input reads as it did. -/
def ringClipsSpec : ChangeSpec := { name := "ringClips", fn := fun _ => fun
  | [d1, d2, d3] => { results := [.lit (.bool true)], args := [d1, d2, d3] }
  | _ => none }
def ringClipsRow : OpenClaim := { program := "ytjcgkhcbdbbdkaa", sum := "4f20ffcd2f0bbd38485c341b2496a7754e028283816733798b5ae90e8a181442", func := "portolan/portolanlaw25.RingClips", spec := "ringClips", unfollowed := true, recurses := true, named := ["math/bits.divideError", "math/bits.overflowError"], apart := false }
def RingClipsSaid : Prop := ringClipsRow.holds Try.pinned (OpenSpec.ofChange ringClipsSpec)

/-- ITS FALSE NEIGHBOUR: 'it returns false'. Refute it at one input. -/
def ringClipsWrong : ChangeSpec := { name := "ringClips", fn := fun _ => fun
  | [d1, d2, d3] => { results := [.lit (.bool false)], args := [d1, d2, d3] }
  | _ => none }
def RingClipsWrongFalsely : Prop := ringClipsRow.holds Try.pinned (OpenSpec.ofChange ringClipsWrong)

/-- 'portolanlaw25.RingWinds': WHATEVER THE INPUT: true; the input reads as it did. -/
def ringWindsSpec : ChangeSpec := { name := "ringWinds", fn := fun _ => fun
  | [d1, d2, d3, d4, d5] => { results := [.lit (.bool true)], args := [d1, d2, d3, d4, d5] }
  | _ => none }
def ringWindsRow : OpenClaim := { program := "ytjcgkhcbdbbdkaa", sum := "4f20ffcd2f0bbd38485c341b2496a7754e028283816733798b5ae90e8a181442", func := "portolan/portolanlaw25.RingWinds", spec := "ringWinds", unfollowed := true, recurses := true, named := ["math/bits.divideError", "math/bits.overflowError"], apart := false }
def RingWindsSaid : Prop := ringWindsRow.holds Try.pinned (OpenSpec.ofChange ringWindsSpec)

/-- ITS FALSE NEIGHBOUR: 'it returns false'. Refute it at one input. -/
def ringWindsWrong : ChangeSpec := { name := "ringWinds", fn := fun _ => fun
  | [d1, d2, d3, d4, d5] => { results := [.lit (.bool false)], args := [d1, d2, d3, d4, d5] }
  | _ => none }
def RingWindsWrongFalsely : Prop := ringWindsRow.holds Try.pinned (OpenSpec.ofChange ringWindsWrong)

/-- 'portolanlaw25.RingStarts': WHATEVER THE INPUT: true; the input reads as it did. -/
def ringStartsSpec : ChangeSpec := { name := "ringStarts", fn := fun _ => fun
  | [d1, d2, d3, d4] => { results := [.lit (.bool true)], args := [d1, d2, d3, d4] }
  | _ => none }
def ringStartsRow : OpenClaim := { program := "ytjcgkhcbdbbdkaa", sum := "4f20ffcd2f0bbd38485c341b2496a7754e028283816733798b5ae90e8a181442", func := "portolan/portolanlaw25.RingStarts", spec := "ringStarts", unfollowed := true, recurses := true, named := ["math/bits.divideError", "math/bits.overflowError"], apart := false }
def RingStartsSaid : Prop := ringStartsRow.holds Try.pinned (OpenSpec.ofChange ringStartsSpec)

/-- ITS FALSE NEIGHBOUR: 'it returns false'. Refute it at one input. -/
def ringStartsWrong : ChangeSpec := { name := "ringStarts", fn := fun _ => fun
  | [d1, d2, d3, d4] => { results := [.lit (.bool false)], args := [d1, d2, d3, d4] }
  | _ => none }
def RingStartsWrongFalsely : Prop := ringStartsRow.holds Try.pinned (OpenSpec.ofChange ringStartsWrong)

/-- 'portolanlaw25.RingEdges': WHATEVER THE INPUT: true; the input reads as it did. -/
def ringEdgesSpec : ChangeSpec := { name := "ringEdges", fn := fun _ => fun
  | [d1, d2, d3, d4] => { results := [.lit (.bool true)], args := [d1, d2, d3, d4] }
  | _ => none }
def ringEdgesRow : OpenClaim := { program := "ytjcgkhcbdbbdkaa", sum := "4f20ffcd2f0bbd38485c341b2496a7754e028283816733798b5ae90e8a181442", func := "portolan/portolanlaw25.RingEdges", spec := "ringEdges", unfollowed := true, recurses := true, named := ["math/bits.divideError", "math/bits.overflowError"], apart := false }
def RingEdgesSaid : Prop := ringEdgesRow.holds Try.pinned (OpenSpec.ofChange ringEdgesSpec)

/-- ITS FALSE NEIGHBOUR: 'it returns false'. Refute it at one input. -/
def ringEdgesWrong : ChangeSpec := { name := "ringEdges", fn := fun _ => fun
  | [d1, d2, d3, d4] => { results := [.lit (.bool false)], args := [d1, d2, d3, d4] }
  | _ => none }
def RingEdgesWrongFalsely : Prop := ringEdgesRow.holds Try.pinned (OpenSpec.ofChange ringEdgesWrong)

/-- 'portolanlaw24.LineClips': WHATEVER THE INPUT: true; the input reads as it did. -/
def lineClipsSpec : ChangeSpec := { name := "lineClips", fn := fun _ => fun
  | [d1, d2, d3] => { results := [.lit (.bool true)], args := [d1, d2, d3] }
  | _ => none }
def lineClipsRow : OpenClaim := { program := "ytjcgkhcbdbbdkaa", sum := "4f20ffcd2f0bbd38485c341b2496a7754e028283816733798b5ae90e8a181442", func := "portolan/portolanlaw24.LineClips", spec := "lineClips", unfollowed := true, recurses := true, named := ["math/bits.divideError", "math/bits.overflowError"], apart := false }
def LineClipsSaid : Prop := lineClipsRow.holds Try.pinned (OpenSpec.ofChange lineClipsSpec)

/-- ITS FALSE NEIGHBOUR: 'it returns false'. Refute it at one input. -/
def lineClipsWrong : ChangeSpec := { name := "lineClips", fn := fun _ => fun
  | [d1, d2, d3] => { results := [.lit (.bool false)], args := [d1, d2, d3] }
  | _ => none }
def LineClipsWrongFalsely : Prop := lineClipsRow.holds Try.pinned (OpenSpec.ofChange lineClipsWrong)

/-- 'portolanlaw24.LineShifts': WHATEVER THE INPUT: true; the input reads as it did. -/
def lineShiftsSpec : ChangeSpec := { name := "lineShifts", fn := fun _ => fun
  | [d1, d2, d3, d4] => { results := [.lit (.bool true)], args := [d1, d2, d3, d4] }
  | _ => none }
def lineShiftsRow : OpenClaim := { program := "ytjcgkhcbdbbdkaa", sum := "4f20ffcd2f0bbd38485c341b2496a7754e028283816733798b5ae90e8a181442", func := "portolan/portolanlaw24.LineShifts", spec := "lineShifts", unfollowed := true, recurses := true, named := ["math/bits.divideError", "math/bits.overflowError"], apart := false }
def LineShiftsSaid : Prop := lineShiftsRow.holds Try.pinned (OpenSpec.ofChange lineShiftsSpec)

/-- ITS FALSE NEIGHBOUR: 'it returns false'. Refute it at one input. -/
def lineShiftsWrong : ChangeSpec := { name := "lineShifts", fn := fun _ => fun
  | [d1, d2, d3, d4] => { results := [.lit (.bool false)], args := [d1, d2, d3, d4] }
  | _ => none }
def LineShiftsWrongFalsely : Prop := lineShiftsRow.holds Try.pinned (OpenSpec.ofChange lineShiftsWrong)

/-- 'portolanlaw24.LineWhole': WHATEVER THE INPUT: true; the input reads as it did. -/
def lineWholeSpec : ChangeSpec := { name := "lineWhole", fn := fun _ => fun
  | [d1, d2, d3] => { results := [.lit (.bool true)], args := [d1, d2, d3] }
  | _ => none }
def lineWholeRow : OpenClaim := { program := "ytjcgkhcbdbbdkaa", sum := "4f20ffcd2f0bbd38485c341b2496a7754e028283816733798b5ae90e8a181442", func := "portolan/portolanlaw24.LineWhole", spec := "lineWhole", unfollowed := true, recurses := true, named := ["math/bits.divideError", "math/bits.overflowError"], apart := false }
def LineWholeSaid : Prop := lineWholeRow.holds Try.pinned (OpenSpec.ofChange lineWholeSpec)

/-- ITS FALSE NEIGHBOUR: 'it returns false'. Refute it at one input. -/
def lineWholeWrong : ChangeSpec := { name := "lineWhole", fn := fun _ => fun
  | [d1, d2, d3] => { results := [.lit (.bool false)], args := [d1, d2, d3] }
  | _ => none }
def LineWholeWrongFalsely : Prop := lineWholeRow.holds Try.pinned (OpenSpec.ofChange lineWholeWrong)

/- THE SECOND FORM. 'bulk': how many values and letters a reading holds, each counted each time it is reached (what is shared counts as often as it is met; a slice's spare places count too). A statement '..UptoSaid' is the law's where the arguments, and the package variables that the reading takes, are together of bulk at most 1048576: NARROWER than '..Said'. Prove '..Said' where nothing that the law and all that it calls make is longer than what came in: it says more and counts as full. Else prove '..UptoSaid'. A law counts once. -/
mutual
def uptoBulk {H : Type} : DataW H → Nat
  | .lit (.string bytes) => bytes.length + 1
  | .lit _ => 1
  | .nil => 1
  | .ptr d => uptoBulk d + 1
  | .slice elems spare => uptoBulkAll elems + uptoBulkAll spare + 1
  | .agg parts => uptoBulkAll parts + 1
  | .iface _ d => uptoBulk d + 1
  | .map entries => uptoBulkEntries entries + 1
  | .held _ => 1
def uptoBulkAll {H : Type} : List (DataW H) → Nat
  | [] => 0
  | d :: r => uptoBulk d + uptoBulkAll r
def uptoBulkEntries {H : Type} : List (Lit × DataW H) → Nat
  | [] => 0
  | x :: r => uptoBulkEntry x + uptoBulkEntries r
def uptoBulkEntry {H : Type} : Lit × DataW H → Nat
  | (.string bytes, d) => bytes.length + uptoBulk d + 1
  | (_, d) => uptoBulk d + 1
 end
def uptoSmall : (H : Type) → List (DataW H) → Bool := fun _ ds => decide (uptoBulkAll ds ≤ 1048576)
def OpenSpec.upto (s : _root_.Go.ChangeSpec) : _root_.Go.OpenSpec := { _root_.Go.OpenSpec.ofChange s with cond := some uptoSmall }

/-- 'portolanlaw24.LineSegments', WHERE WHAT IT READS IS OF BULK AT MOST 1048576: true; the input reads as it did. -/
def lineSegmentsUptoRow : OpenClaim := { program := "ytjcgkhcbdbbdkaa", sum := "4f20ffcd2f0bbd38485c341b2496a7754e028283816733798b5ae90e8a181442", func := "portolan/portolanlaw24.LineSegments", spec := "lineSegments", unfollowed := true, recurses := true, named := ["math/bits.divideError", "math/bits.overflowError"], apart := false, narrowed := true }
def LineSegmentsUptoSaid : Prop := lineSegmentsUptoRow.holds Try.pinned (OpenSpec.upto lineSegmentsSpec)

/-- 'portolanlaw25.RingClips', WHERE WHAT IT READS IS OF BULK AT MOST 1048576: true; the input reads as it did. -/
def ringClipsUptoRow : OpenClaim := { program := "ytjcgkhcbdbbdkaa", sum := "4f20ffcd2f0bbd38485c341b2496a7754e028283816733798b5ae90e8a181442", func := "portolan/portolanlaw25.RingClips", spec := "ringClips", unfollowed := true, recurses := true, named := ["math/bits.divideError", "math/bits.overflowError"], apart := false, narrowed := true }
def RingClipsUptoSaid : Prop := ringClipsUptoRow.holds Try.pinned (OpenSpec.upto ringClipsSpec)

/-- 'portolanlaw25.RingWinds', WHERE WHAT IT READS IS OF BULK AT MOST 1048576: true; the input reads as it did. -/
def ringWindsUptoRow : OpenClaim := { program := "ytjcgkhcbdbbdkaa", sum := "4f20ffcd2f0bbd38485c341b2496a7754e028283816733798b5ae90e8a181442", func := "portolan/portolanlaw25.RingWinds", spec := "ringWinds", unfollowed := true, recurses := true, named := ["math/bits.divideError", "math/bits.overflowError"], apart := false, narrowed := true }
def RingWindsUptoSaid : Prop := ringWindsUptoRow.holds Try.pinned (OpenSpec.upto ringWindsSpec)

/-- 'portolanlaw25.RingStarts', WHERE WHAT IT READS IS OF BULK AT MOST 1048576: true; the input reads as it did. -/
def ringStartsUptoRow : OpenClaim := { program := "ytjcgkhcbdbbdkaa", sum := "4f20ffcd2f0bbd38485c341b2496a7754e028283816733798b5ae90e8a181442", func := "portolan/portolanlaw25.RingStarts", spec := "ringStarts", unfollowed := true, recurses := true, named := ["math/bits.divideError", "math/bits.overflowError"], apart := false, narrowed := true }
def RingStartsUptoSaid : Prop := ringStartsUptoRow.holds Try.pinned (OpenSpec.upto ringStartsSpec)

/-- 'portolanlaw25.RingEdges', WHERE WHAT IT READS IS OF BULK AT MOST 1048576: true; the input reads as it did. -/
def ringEdgesUptoRow : OpenClaim := { program := "ytjcgkhcbdbbdkaa", sum := "4f20ffcd2f0bbd38485c341b2496a7754e028283816733798b5ae90e8a181442", func := "portolan/portolanlaw25.RingEdges", spec := "ringEdges", unfollowed := true, recurses := true, named := ["math/bits.divideError", "math/bits.overflowError"], apart := false, narrowed := true }
def RingEdgesUptoSaid : Prop := ringEdgesUptoRow.holds Try.pinned (OpenSpec.upto ringEdgesSpec)

/-- 'portolanlaw24.LineClips', WHERE WHAT IT READS IS OF BULK AT MOST 1048576: true; the input reads as it did. -/
def lineClipsUptoRow : OpenClaim := { program := "ytjcgkhcbdbbdkaa", sum := "4f20ffcd2f0bbd38485c341b2496a7754e028283816733798b5ae90e8a181442", func := "portolan/portolanlaw24.LineClips", spec := "lineClips", unfollowed := true, recurses := true, named := ["math/bits.divideError", "math/bits.overflowError"], apart := false, narrowed := true }
def LineClipsUptoSaid : Prop := lineClipsUptoRow.holds Try.pinned (OpenSpec.upto lineClipsSpec)

/-- 'portolanlaw24.LineShifts', WHERE WHAT IT READS IS OF BULK AT MOST 1048576: true; the input reads as it did. -/
def lineShiftsUptoRow : OpenClaim := { program := "ytjcgkhcbdbbdkaa", sum := "4f20ffcd2f0bbd38485c341b2496a7754e028283816733798b5ae90e8a181442", func := "portolan/portolanlaw24.LineShifts", spec := "lineShifts", unfollowed := true, recurses := true, named := ["math/bits.divideError", "math/bits.overflowError"], apart := false, narrowed := true }
def LineShiftsUptoSaid : Prop := lineShiftsUptoRow.holds Try.pinned (OpenSpec.upto lineShiftsSpec)

/-- 'portolanlaw24.LineWhole', WHERE WHAT IT READS IS OF BULK AT MOST 1048576: true; the input reads as it did. -/
def lineWholeUptoRow : OpenClaim := { program := "ytjcgkhcbdbbdkaa", sum := "4f20ffcd2f0bbd38485c341b2496a7754e028283816733798b5ae90e8a181442", func := "portolan/portolanlaw24.LineWhole", spec := "lineWhole", unfollowed := true, recurses := true, named := ["math/bits.divideError", "math/bits.overflowError"], apart := false, narrowed := true }
def LineWholeUptoSaid : Prop := lineWholeUptoRow.holds Try.pinned (OpenSpec.upto lineWholeSpec)

end Rows
end Go.Proofs.Ytjcgkhcbdbbdkaa
