/-
  No cell of these rows narrows 'for every input' (looked for: loops, veiled, ifaces, maps, wideKeys, modest, calm, conditions, laid).
  DERIVED. THE GIVEN ROWS OF THIS SEAT. 12 by the template 'for every input the law returns true; each argument reads behind the call as it read before'; 0 by the template 'total and deterministic' (their statements: YthgibnmnjoniiaaTotals.lean).
  GIVEN WITH THE SEED: the statements are not yours to turn. If you find one false, say at which input.
  Laid BY PROGRAM, IN A SANDBOX (cutbox-rows.mjs): the forced cells as the released guide's own fill.sh prints them over the translation 4551917bb004e6d4… (all of the seat's roots in one cut). By AI agents, Wed Nov 11 2026. No macro, syntax, notation, axiom, sorry.
-/
import Derived.Test.YthgibnmnjoniiaaChecked
import GoSem.Claim
import GoSem.ClaimJoined
import GoSem.ClaimMapViews
import Derived.JoinedTies
import Derived.KernelRfl
namespace Go.Proofs.Ythgibnmnjoniiaa
/- THE CELL 'sum', in the pinned program and in every row, IS THE sha256 OF THE DUMP (.gsa) THAT YthgibnmnjoniiaaProg.lean LOADS. Nothing in Lean hashes anything: it is a label: what it is worth is what the hold of that sum in a sandbox is worth. -/
noncomputable def Try.pinned : Pinned := { name := "ythgibnmnjoniiaa", sum := "4551917bb004e6d4e2293b82692a6fe7973b2c332f33750120d4ae765da08a3c", checked := Try.checked }
namespace Rows
def none {H : Type} : Left H := { results := [], args := [] }

/-- 'portolanlaw27.WindArounds': WHATEVER THE INPUT: true; the input reads as it did. -/
def windAroundsSpec : ChangeSpec := { name := "windArounds", fn := fun _ => fun
  | [d1, d2] => { results := [.lit (.bool true)], args := [d1, d2] }
  | _ => none }
def windAroundsRow : OpenClaim := { program := "ythgibnmnjoniiaa", sum := "4551917bb004e6d4e2293b82692a6fe7973b2c332f33750120d4ae765da08a3c", func := "portolan/portolanlaw27.WindArounds", spec := "windArounds", unfollowed := true, recurses := true, apart := false }
def WindAroundsSaid : Prop := windAroundsRow.holds Try.pinned (OpenSpec.ofChange windAroundsSpec)

/-- ITS FALSE NEIGHBOUR: 'it returns false'. Refute it at one input. -/
def windAroundsWrong : ChangeSpec := { name := "windArounds", fn := fun _ => fun
  | [d1, d2] => { results := [.lit (.bool false)], args := [d1, d2] }
  | _ => none }
def WindAroundsWrongFalsely : Prop := windAroundsRow.holds Try.pinned (OpenSpec.ofChange windAroundsWrong)

/-- 'portolanlaw26.NormWhole': WHATEVER THE INPUT: true; the input reads as it did. -/
def normWholeSpec : ChangeSpec := { name := "normWhole", fn := fun _ => fun
  | [d1, d2, d3, d4] => { results := [.lit (.bool true)], args := [d1, d2, d3, d4] }
  | _ => none }
def normWholeRow : OpenClaim := { program := "ythgibnmnjoniiaa", sum := "4551917bb004e6d4e2293b82692a6fe7973b2c332f33750120d4ae765da08a3c", func := "portolan/portolanlaw26.NormWhole", spec := "normWhole", recurses := true, apart := false }
def NormWholeSaid : Prop := normWholeRow.holds Try.pinned (OpenSpec.ofChange normWholeSpec)

/-- ITS FALSE NEIGHBOUR: 'it returns false'. Refute it at one input. -/
def normWholeWrong : ChangeSpec := { name := "normWhole", fn := fun _ => fun
  | [d1, d2, d3, d4] => { results := [.lit (.bool false)], args := [d1, d2, d3, d4] }
  | _ => none }
def NormWholeWrongFalsely : Prop := normWholeRow.holds Try.pinned (OpenSpec.ofChange normWholeWrong)

/-- 'portolanlaw26.NormLines': WHATEVER THE INPUT: true; the input reads as it did. -/
def normLinesSpec : ChangeSpec := { name := "normLines", fn := fun _ => fun
  | [d] => { results := [.lit (.bool true)], args := [d] }
  | _ => none }
def normLinesRow : OpenClaim := { program := "ythgibnmnjoniiaa", sum := "4551917bb004e6d4e2293b82692a6fe7973b2c332f33750120d4ae765da08a3c", func := "portolan/portolanlaw26.NormLines", spec := "normLines", recurses := true, apart := false }
def NormLinesSaid : Prop := normLinesRow.holds Try.pinned (OpenSpec.ofChange normLinesSpec)

/-- ITS FALSE NEIGHBOUR: 'it returns false'. Refute it at one input. -/
def normLinesWrong : ChangeSpec := { name := "normLines", fn := fun _ => fun
  | [d] => { results := [.lit (.bool false)], args := [d] }
  | _ => none }
def NormLinesWrongFalsely : Prop := normLinesRow.holds Try.pinned (OpenSpec.ofChange normLinesWrong)

/-- 'portolanlaw27.WindAreas': WHATEVER THE INPUT: true; the input reads as it did. -/
def windAreasSpec : ChangeSpec := { name := "windAreas", fn := fun _ => fun
  | [d] => { results := [.lit (.bool true)], args := [d] }
  | _ => none }
def windAreasRow : OpenClaim := { program := "ythgibnmnjoniiaa", sum := "4551917bb004e6d4e2293b82692a6fe7973b2c332f33750120d4ae765da08a3c", func := "portolan/portolanlaw27.WindAreas", spec := "windAreas", unfollowed := true, recurses := true, apart := false }
def WindAreasSaid : Prop := windAreasRow.holds Try.pinned (OpenSpec.ofChange windAreasSpec)

/-- ITS FALSE NEIGHBOUR: 'it returns false'. Refute it at one input. -/
def windAreasWrong : ChangeSpec := { name := "windAreas", fn := fun _ => fun
  | [d] => { results := [.lit (.bool false)], args := [d] }
  | _ => none }
def WindAreasWrongFalsely : Prop := windAreasRow.holds Try.pinned (OpenSpec.ofChange windAreasWrong)

/-- 'portolanlaw26.NormRounds': WHATEVER THE INPUT: true; the input reads as it did. -/
def normRoundsSpec : ChangeSpec := { name := "normRounds", fn := fun _ => fun
  | [d1, d2, d3, d4, d5] => { results := [.lit (.bool true)], args := [d1, d2, d3, d4, d5] }
  | _ => none }
def normRoundsRow : OpenClaim := { program := "ythgibnmnjoniiaa", sum := "4551917bb004e6d4e2293b82692a6fe7973b2c332f33750120d4ae765da08a3c", func := "portolan/portolanlaw26.NormRounds", spec := "normRounds", unfollowed := true, recurses := true, apart := false }
def NormRoundsSaid : Prop := normRoundsRow.holds Try.pinned (OpenSpec.ofChange normRoundsSpec)

/-- ITS FALSE NEIGHBOUR: 'it returns false'. Refute it at one input. -/
def normRoundsWrong : ChangeSpec := { name := "normRounds", fn := fun _ => fun
  | [d1, d2, d3, d4, d5] => { results := [.lit (.bool false)], args := [d1, d2, d3, d4, d5] }
  | _ => none }
def NormRoundsWrongFalsely : Prop := normRoundsRow.holds Try.pinned (OpenSpec.ofChange normRoundsWrong)

/-- 'portolanlaw27.WindGroups': WHATEVER THE INPUT: true; the input reads as it did. -/
def windGroupsSpec : ChangeSpec := { name := "windGroups", fn := fun _ => fun
  | [d] => { results := [.lit (.bool true)], args := [d] }
  | _ => none }
def windGroupsRow : OpenClaim := { program := "ythgibnmnjoniiaa", sum := "4551917bb004e6d4e2293b82692a6fe7973b2c332f33750120d4ae765da08a3c", func := "portolan/portolanlaw27.WindGroups", spec := "windGroups", unfollowed := true, recurses := true, apart := false }
def WindGroupsSaid : Prop := windGroupsRow.holds Try.pinned (OpenSpec.ofChange windGroupsSpec)

/-- ITS FALSE NEIGHBOUR: 'it returns false'. Refute it at one input. -/
def windGroupsWrong : ChangeSpec := { name := "windGroups", fn := fun _ => fun
  | [d] => { results := [.lit (.bool false)], args := [d] }
  | _ => none }
def WindGroupsWrongFalsely : Prop := windGroupsRow.holds Try.pinned (OpenSpec.ofChange windGroupsWrong)

/-- 'portolanlaw22.WideDivs': WHATEVER THE INPUT: true; the input reads as it did. -/
def wideDivsSpec : ChangeSpec := { name := "wideDivs", fn := fun _ => fun
  | [d1, d2, d3] => { results := [.lit (.bool true)], args := [d1, d2, d3] }
  | _ => none }
def wideDivsRow : OpenClaim := { program := "ythgibnmnjoniiaa", sum := "4551917bb004e6d4e2293b82692a6fe7973b2c332f33750120d4ae765da08a3c", func := "portolan/portolanlaw22.WideDivs", spec := "wideDivs", named := ["math/bits.divideError", "math/bits.overflowError"], apart := false }
def WideDivsSaid : Prop := wideDivsRow.holds Try.pinned (OpenSpec.ofChange wideDivsSpec)

/-- ITS FALSE NEIGHBOUR: 'it returns false'. Refute it at one input. -/
def wideDivsWrong : ChangeSpec := { name := "wideDivs", fn := fun _ => fun
  | [d1, d2, d3] => { results := [.lit (.bool false)], args := [d1, d2, d3] }
  | _ => none }
def WideDivsWrongFalsely : Prop := wideDivsRow.holds Try.pinned (OpenSpec.ofChange wideDivsWrong)

/-- 'portolanlaw22.WideMuls': WHATEVER THE INPUT: true; the input reads as it did. -/
def wideMulsSpec : ChangeSpec := { name := "wideMuls", fn := fun _ => fun
  | [d1, d2] => { results := [.lit (.bool true)], args := [d1, d2] }
  | _ => none }
def wideMulsRow : OpenClaim := { program := "ythgibnmnjoniiaa", sum := "4551917bb004e6d4e2293b82692a6fe7973b2c332f33750120d4ae765da08a3c", func := "portolan/portolanlaw22.WideMuls", spec := "wideMuls", recurses := true, named := ["math/bits.divideError", "math/bits.overflowError"], apart := false }
def WideMulsSaid : Prop := wideMulsRow.holds Try.pinned (OpenSpec.ofChange wideMulsSpec)

/-- ITS FALSE NEIGHBOUR: 'it returns false'. Refute it at one input. -/
def wideMulsWrong : ChangeSpec := { name := "wideMuls", fn := fun _ => fun
  | [d1, d2] => { results := [.lit (.bool false)], args := [d1, d2] }
  | _ => none }
def WideMulsWrongFalsely : Prop := wideMulsRow.holds Try.pinned (OpenSpec.ofChange wideMulsWrong)

/-- 'portolanlaw22.WideCmps': WHATEVER THE INPUT: true; the input reads as it did. -/
def wideCmpsSpec : ChangeSpec := { name := "wideCmps", fn := fun _ => fun
  | [d1, d2, d3, d4] => { results := [.lit (.bool true)], args := [d1, d2, d3, d4] }
  | _ => none }
def wideCmpsRow : OpenClaim := { program := "ythgibnmnjoniiaa", sum := "4551917bb004e6d4e2293b82692a6fe7973b2c332f33750120d4ae765da08a3c", func := "portolan/portolanlaw22.WideCmps", spec := "wideCmps", named := ["math/bits.divideError", "math/bits.overflowError"], apart := false }
def WideCmpsSaid : Prop := wideCmpsRow.holds Try.pinned (OpenSpec.ofChange wideCmpsSpec)

/-- ITS FALSE NEIGHBOUR: 'it returns false'. Refute it at one input. -/
def wideCmpsWrong : ChangeSpec := { name := "wideCmps", fn := fun _ => fun
  | [d1, d2, d3, d4] => { results := [.lit (.bool false)], args := [d1, d2, d3, d4] }
  | _ => none }
def WideCmpsWrongFalsely : Prop := wideCmpsRow.holds Try.pinned (OpenSpec.ofChange wideCmpsWrong)

/-- 'portolanlaw23.FracCrosses': WHATEVER THE INPUT: true; the input reads as it did. -/
def fracCrossesSpec : ChangeSpec := { name := "fracCrosses", fn := fun _ => fun
  | [d1, d2, d3, d4] => { results := [.lit (.bool true)], args := [d1, d2, d3, d4] }
  | _ => none }
def fracCrossesRow : OpenClaim := { program := "ythgibnmnjoniiaa", sum := "4551917bb004e6d4e2293b82692a6fe7973b2c332f33750120d4ae765da08a3c", func := "portolan/portolanlaw23.FracCrosses", spec := "fracCrosses", unfollowed := true, recurses := true, named := ["math/bits.divideError", "math/bits.overflowError"], apart := false }
def FracCrossesSaid : Prop := fracCrossesRow.holds Try.pinned (OpenSpec.ofChange fracCrossesSpec)

/-- ITS FALSE NEIGHBOUR: 'it returns false'. Refute it at one input. -/
def fracCrossesWrong : ChangeSpec := { name := "fracCrosses", fn := fun _ => fun
  | [d1, d2, d3, d4] => { results := [.lit (.bool false)], args := [d1, d2, d3, d4] }
  | _ => none }
def FracCrossesWrongFalsely : Prop := fracCrossesRow.holds Try.pinned (OpenSpec.ofChange fracCrossesWrong)

/-- 'portolanlaw23.FracMakes': WHATEVER THE INPUT: true; the input reads as it did. -/
def fracMakesSpec : ChangeSpec := { name := "fracMakes", fn := fun _ => fun
  | [d1, d2, d3, d4] => { results := [.lit (.bool true)], args := [d1, d2, d3, d4] }
  | _ => none }
def fracMakesRow : OpenClaim := { program := "ythgibnmnjoniiaa", sum := "4551917bb004e6d4e2293b82692a6fe7973b2c332f33750120d4ae765da08a3c", func := "portolan/portolanlaw23.FracMakes", spec := "fracMakes", unfollowed := true, recurses := true, named := ["math/bits.divideError", "math/bits.overflowError"], apart := false }
def FracMakesSaid : Prop := fracMakesRow.holds Try.pinned (OpenSpec.ofChange fracMakesSpec)

/-- ITS FALSE NEIGHBOUR: 'it returns false'. Refute it at one input. -/
def fracMakesWrong : ChangeSpec := { name := "fracMakes", fn := fun _ => fun
  | [d1, d2, d3, d4] => { results := [.lit (.bool false)], args := [d1, d2, d3, d4] }
  | _ => none }
def FracMakesWrongFalsely : Prop := fracMakesRow.holds Try.pinned (OpenSpec.ofChange fracMakesWrong)

/-- 'portolanlaw23.FracCmps': WHATEVER THE INPUT: true; the input reads as it did. -/
def fracCmpsSpec : ChangeSpec := { name := "fracCmps", fn := fun _ => fun
  | [d1, d2] => { results := [.lit (.bool true)], args := [d1, d2] }
  | _ => none }
def fracCmpsRow : OpenClaim := { program := "ythgibnmnjoniiaa", sum := "4551917bb004e6d4e2293b82692a6fe7973b2c332f33750120d4ae765da08a3c", func := "portolan/portolanlaw23.FracCmps", spec := "fracCmps", unfollowed := true, recurses := true, named := ["math/bits.divideError", "math/bits.overflowError"], apart := false }
def FracCmpsSaid : Prop := fracCmpsRow.holds Try.pinned (OpenSpec.ofChange fracCmpsSpec)

/-- ITS FALSE NEIGHBOUR: 'it returns false'. Refute it at one input. -/
def fracCmpsWrong : ChangeSpec := { name := "fracCmps", fn := fun _ => fun
  | [d1, d2] => { results := [.lit (.bool false)], args := [d1, d2] }
  | _ => none }
def FracCmpsWrongFalsely : Prop := fracCmpsRow.holds Try.pinned (OpenSpec.ofChange fracCmpsWrong)

/- THE SECOND FORM. 'bulk': how many values and letters a reading holds, each counted each time it is reached (what is shared counts as often as it is met; a slice's spare places count too). A statement '..UptoSaid' is the law's where the arguments, and the package variables that the reading takes, are together of bulk at most 1048576: NARROWER than '..Said'. Prove '..Said' where nothing that the law and all that it calls make is longer than what came in: it says more and counts as full. Else prove '..UptoSaid'. A law counts once. -/
mutual
def uptoBulk {H : Type} : DataW H → Nat
  | .lit (.string bytes) => bytes.length + 1
  | .lit _ => 1
  | .nil => 1
  | .ptr d => uptoBulk d + 1
  | .slice elems spare => uptoBulkAll elems + uptoBulkAll spare + 1
  | .agg parts => uptoBulkAll parts + 1
  | .iface _ d => uptoBulk d + 1
  | .map entries => uptoBulkEntries entries + 1
  | .held _ => 1
def uptoBulkAll {H : Type} : List (DataW H) → Nat
  | [] => 0
  | d :: r => uptoBulk d + uptoBulkAll r
def uptoBulkEntries {H : Type} : List (Lit × DataW H) → Nat
  | [] => 0
  | x :: r => uptoBulkEntry x + uptoBulkEntries r
def uptoBulkEntry {H : Type} : Lit × DataW H → Nat
  | (.string bytes, d) => bytes.length + uptoBulk d + 1
  | (_, d) => uptoBulk d + 1
 end
def uptoSmall : (H : Type) → List (DataW H) → Bool := fun _ ds => decide (uptoBulkAll ds ≤ 1048576)
def OpenSpec.upto (s : _root_.Go.ChangeSpec) : _root_.Go.OpenSpec := { _root_.Go.OpenSpec.ofChange s with cond := some uptoSmall }

/-- 'portolanlaw27.WindArounds', WHERE WHAT IT READS IS OF BULK AT MOST 1048576: true; the input reads as it did. -/
def windAroundsUptoRow : OpenClaim := { program := "ythgibnmnjoniiaa", sum := "4551917bb004e6d4e2293b82692a6fe7973b2c332f33750120d4ae765da08a3c", func := "portolan/portolanlaw27.WindArounds", spec := "windArounds", unfollowed := true, recurses := true, apart := false, narrowed := true }
def WindAroundsUptoSaid : Prop := windAroundsUptoRow.holds Try.pinned (OpenSpec.upto windAroundsSpec)

/-- 'portolanlaw26.NormWhole', WHERE WHAT IT READS IS OF BULK AT MOST 1048576: true; the input reads as it did. -/
def normWholeUptoRow : OpenClaim := { program := "ythgibnmnjoniiaa", sum := "4551917bb004e6d4e2293b82692a6fe7973b2c332f33750120d4ae765da08a3c", func := "portolan/portolanlaw26.NormWhole", spec := "normWhole", recurses := true, apart := false, narrowed := true }
def NormWholeUptoSaid : Prop := normWholeUptoRow.holds Try.pinned (OpenSpec.upto normWholeSpec)

/-- 'portolanlaw26.NormLines', WHERE WHAT IT READS IS OF BULK AT MOST 1048576: true; the input reads as it did. -/
def normLinesUptoRow : OpenClaim := { program := "ythgibnmnjoniiaa", sum := "4551917bb004e6d4e2293b82692a6fe7973b2c332f33750120d4ae765da08a3c", func := "portolan/portolanlaw26.NormLines", spec := "normLines", recurses := true, apart := false, narrowed := true }
def NormLinesUptoSaid : Prop := normLinesUptoRow.holds Try.pinned (OpenSpec.upto normLinesSpec)

/-- 'portolanlaw27.WindAreas', WHERE WHAT IT READS IS OF BULK AT MOST 1048576: true; the input reads as it did. -/
def windAreasUptoRow : OpenClaim := { program := "ythgibnmnjoniiaa", sum := "4551917bb004e6d4e2293b82692a6fe7973b2c332f33750120d4ae765da08a3c", func := "portolan/portolanlaw27.WindAreas", spec := "windAreas", unfollowed := true, recurses := true, apart := false, narrowed := true }
def WindAreasUptoSaid : Prop := windAreasUptoRow.holds Try.pinned (OpenSpec.upto windAreasSpec)

/-- 'portolanlaw26.NormRounds', WHERE WHAT IT READS IS OF BULK AT MOST 1048576: true; the input reads as it did. -/
def normRoundsUptoRow : OpenClaim := { program := "ythgibnmnjoniiaa", sum := "4551917bb004e6d4e2293b82692a6fe7973b2c332f33750120d4ae765da08a3c", func := "portolan/portolanlaw26.NormRounds", spec := "normRounds", unfollowed := true, recurses := true, apart := false, narrowed := true }
def NormRoundsUptoSaid : Prop := normRoundsUptoRow.holds Try.pinned (OpenSpec.upto normRoundsSpec)

/-- 'portolanlaw27.WindGroups', WHERE WHAT IT READS IS OF BULK AT MOST 1048576: true; the input reads as it did. -/
def windGroupsUptoRow : OpenClaim := { program := "ythgibnmnjoniiaa", sum := "4551917bb004e6d4e2293b82692a6fe7973b2c332f33750120d4ae765da08a3c", func := "portolan/portolanlaw27.WindGroups", spec := "windGroups", unfollowed := true, recurses := true, apart := false, narrowed := true }
def WindGroupsUptoSaid : Prop := windGroupsUptoRow.holds Try.pinned (OpenSpec.upto windGroupsSpec)

/-- 'portolanlaw22.WideDivs', WHERE WHAT IT READS IS OF BULK AT MOST 1048576: true; the input reads as it did. -/
def wideDivsUptoRow : OpenClaim := { program := "ythgibnmnjoniiaa", sum := "4551917bb004e6d4e2293b82692a6fe7973b2c332f33750120d4ae765da08a3c", func := "portolan/portolanlaw22.WideDivs", spec := "wideDivs", named := ["math/bits.divideError", "math/bits.overflowError"], apart := false, narrowed := true }
def WideDivsUptoSaid : Prop := wideDivsUptoRow.holds Try.pinned (OpenSpec.upto wideDivsSpec)

/-- 'portolanlaw22.WideMuls', WHERE WHAT IT READS IS OF BULK AT MOST 1048576: true; the input reads as it did. -/
def wideMulsUptoRow : OpenClaim := { program := "ythgibnmnjoniiaa", sum := "4551917bb004e6d4e2293b82692a6fe7973b2c332f33750120d4ae765da08a3c", func := "portolan/portolanlaw22.WideMuls", spec := "wideMuls", recurses := true, named := ["math/bits.divideError", "math/bits.overflowError"], apart := false, narrowed := true }
def WideMulsUptoSaid : Prop := wideMulsUptoRow.holds Try.pinned (OpenSpec.upto wideMulsSpec)

/-- 'portolanlaw22.WideCmps', WHERE WHAT IT READS IS OF BULK AT MOST 1048576: true; the input reads as it did. -/
def wideCmpsUptoRow : OpenClaim := { program := "ythgibnmnjoniiaa", sum := "4551917bb004e6d4e2293b82692a6fe7973b2c332f33750120d4ae765da08a3c", func := "portolan/portolanlaw22.WideCmps", spec := "wideCmps", named := ["math/bits.divideError", "math/bits.overflowError"], apart := false, narrowed := true }
def WideCmpsUptoSaid : Prop := wideCmpsUptoRow.holds Try.pinned (OpenSpec.upto wideCmpsSpec)

/-- 'portolanlaw23.FracCrosses', WHERE WHAT IT READS IS OF BULK AT MOST 1048576: true; the input reads as it did. -/
def fracCrossesUptoRow : OpenClaim := { program := "ythgibnmnjoniiaa", sum := "4551917bb004e6d4e2293b82692a6fe7973b2c332f33750120d4ae765da08a3c", func := "portolan/portolanlaw23.FracCrosses", spec := "fracCrosses", unfollowed := true, recurses := true, named := ["math/bits.divideError", "math/bits.overflowError"], apart := false, narrowed := true }
def FracCrossesUptoSaid : Prop := fracCrossesUptoRow.holds Try.pinned (OpenSpec.upto fracCrossesSpec)

/-- 'portolanlaw23.FracMakes', WHERE WHAT IT READS IS OF BULK AT MOST 1048576: true; the input reads as it did. -/
def fracMakesUptoRow : OpenClaim := { program := "ythgibnmnjoniiaa", sum := "4551917bb004e6d4e2293b82692a6fe7973b2c332f33750120d4ae765da08a3c", func := "portolan/portolanlaw23.FracMakes", spec := "fracMakes", unfollowed := true, recurses := true, named := ["math/bits.divideError", "math/bits.overflowError"], apart := false, narrowed := true }
def FracMakesUptoSaid : Prop := fracMakesUptoRow.holds Try.pinned (OpenSpec.upto fracMakesSpec)

/-- 'portolanlaw23.FracCmps', WHERE WHAT IT READS IS OF BULK AT MOST 1048576: true; the input reads as it did. -/
def fracCmpsUptoRow : OpenClaim := { program := "ythgibnmnjoniiaa", sum := "4551917bb004e6d4e2293b82692a6fe7973b2c332f33750120d4ae765da08a3c", func := "portolan/portolanlaw23.FracCmps", spec := "fracCmps", unfollowed := true, recurses := true, named := ["math/bits.divideError", "math/bits.overflowError"], apart := false, narrowed := true }
def FracCmpsUptoSaid : Prop := fracCmpsUptoRow.holds Try.pinned (OpenSpec.upto fracCmpsSpec)

end Rows
end Go.Proofs.Ythgibnmnjoniiaa
