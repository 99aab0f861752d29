/-
  No cell of these rows narrows 'for every input' (looked for: loops, veiled, ifaces, maps, wideKeys, modest, calm, conditions, laid).
  DERIVED. THE GIVEN ROWS OF THIS SEAT. 3 by the template 'for every input the law returns true; each argument reads behind the call as it read before'; 0 by the template 'total and deterministic' (their statements: YtfdjdfobhkmlpaaTotals.lean).
  GIVEN WITH THE SEED: the statements are not yours to turn. If you find one false, say at which input.
  Laid BY PROGRAM, IN A SANDBOX (cutbox-rows.mjs): the forced cells as the released guide's own fill.sh prints them over the translation 55529ef8bf63066e… (all of the seat's roots in one cut). By AI agents, Wed Nov 11 2026. No macro, syntax, notation, axiom, sorry.
-/
import Derived.Test.YtfdjdfobhkmlpaaChecked
import GoSem.Claim
import GoSem.ClaimJoined
import GoSem.ClaimMapViews
import Derived.JoinedTies
import Derived.KernelRfl
namespace Go.Proofs.Ytfdjdfobhkmlpaa
/- THE CELL 'sum', in the pinned program and in every row, IS THE sha256 OF THE DUMP (.gsa) THAT YtfdjdfobhkmlpaaProg.lean LOADS. Nothing in Lean hashes anything: it is a label: what it is worth is what the hold of that sum in a sandbox is worth. -/
noncomputable def Try.pinned : Pinned := { name := "ytfdjdfobhkmlpaa", sum := "55529ef8bf63066efe9f4b7d01ec3fd66ad63fc5a80cd1d53415520379259a96", checked := Try.checked }
namespace Rows
def none {H : Type} : Left H := { results := [], args := [] }

/-- 'portolanlaw28.OverWindows': WHATEVER THE INPUT: true; the input reads as it did. -/
def overWindowsSpec : ChangeSpec := { name := "overWindows", fn := fun _ => fun
  | [d1, d2, d3] => { results := [.lit (.bool true)], args := [d1, d2, d3] }
  | _ => none }
def overWindowsRow : OpenClaim := { program := "ytfdjdfobhkmlpaa", sum := "55529ef8bf63066efe9f4b7d01ec3fd66ad63fc5a80cd1d53415520379259a96", func := "portolan/portolanlaw28.OverWindows", spec := "overWindows", unfollowed := true, recurses := true, named := ["math/bits.divideError", "math/bits.overflowError"], apart := false }
def OverWindowsSaid : Prop := overWindowsRow.holds Try.pinned (OpenSpec.ofChange overWindowsSpec)

/-- ITS FALSE NEIGHBOUR: 'it returns false'. Refute it at one input. -/
def overWindowsWrong : ChangeSpec := { name := "overWindows", fn := fun _ => fun
  | [d1, d2, d3] => { results := [.lit (.bool false)], args := [d1, d2, d3] }
  | _ => none }
def OverWindowsWrongFalsely : Prop := overWindowsRow.holds Try.pinned (OpenSpec.ofChange overWindowsWrong)

/-- 'portolanlaw28.OverSteps': WHATEVER THE INPUT: true; the input reads as it did. -/
def overStepsSpec : ChangeSpec := { name := "overSteps", fn := fun _ => fun
  | [d1, d2, d3, d4, d5, d6, d7] => { results := [.lit (.bool true)], args := [d1, d2, d3, d4, d5, d6, d7] }
  | _ => none }
def overStepsRow : OpenClaim := { program := "ytfdjdfobhkmlpaa", sum := "55529ef8bf63066efe9f4b7d01ec3fd66ad63fc5a80cd1d53415520379259a96", func := "portolan/portolanlaw28.OverSteps", spec := "overSteps", unfollowed := true, recurses := true, named := ["math/bits.divideError", "math/bits.overflowError"], apart := false }
def OverStepsSaid : Prop := overStepsRow.holds Try.pinned (OpenSpec.ofChange overStepsSpec)

/-- ITS FALSE NEIGHBOUR: 'it returns false'. Refute it at one input. -/
def overStepsWrong : ChangeSpec := { name := "overSteps", fn := fun _ => fun
  | [d1, d2, d3, d4, d5, d6, d7] => { results := [.lit (.bool false)], args := [d1, d2, d3, d4, d5, d6, d7] }
  | _ => none }
def OverStepsWrongFalsely : Prop := overStepsRow.holds Try.pinned (OpenSpec.ofChange overStepsWrong)

/-- 'portolanlaw28.OverInside': WHATEVER THE INPUT: true; the input reads as it did. -/
def overInsideSpec : ChangeSpec := { name := "overInside", fn := fun _ => fun
  | [d1, d2, d3] => { results := [.lit (.bool true)], args := [d1, d2, d3] }
  | _ => none }
def overInsideRow : OpenClaim := { program := "ytfdjdfobhkmlpaa", sum := "55529ef8bf63066efe9f4b7d01ec3fd66ad63fc5a80cd1d53415520379259a96", func := "portolan/portolanlaw28.OverInside", spec := "overInside", unfollowed := true, recurses := true, named := ["math/bits.divideError", "math/bits.overflowError"], apart := false }
def OverInsideSaid : Prop := overInsideRow.holds Try.pinned (OpenSpec.ofChange overInsideSpec)

/-- ITS FALSE NEIGHBOUR: 'it returns false'. Refute it at one input. -/
def overInsideWrong : ChangeSpec := { name := "overInside", fn := fun _ => fun
  | [d1, d2, d3] => { results := [.lit (.bool false)], args := [d1, d2, d3] }
  | _ => none }
def OverInsideWrongFalsely : Prop := overInsideRow.holds Try.pinned (OpenSpec.ofChange overInsideWrong)

/- THE SECOND FORM. 'bulk': how many values and letters a reading holds, each counted each time it is reached (what is shared counts as often as it is met; a slice's spare places count too). A statement '..UptoSaid' is the law's where the arguments, and the package variables that the reading takes, are together of bulk at most 1048576: NARROWER than '..Said'. Prove '..Said' where nothing that the law and all that it calls make is longer than what came in: it says more and counts as full. Else prove '..UptoSaid'. A law counts once. -/
mutual
def uptoBulk {H : Type} : DataW H → Nat
  | .lit (.string bytes) => bytes.length + 1
  | .lit _ => 1
  | .nil => 1
  | .ptr d => uptoBulk d + 1
  | .slice elems spare => uptoBulkAll elems + uptoBulkAll spare + 1
  | .agg parts => uptoBulkAll parts + 1
  | .iface _ d => uptoBulk d + 1
  | .map entries => uptoBulkEntries entries + 1
  | .held _ => 1
def uptoBulkAll {H : Type} : List (DataW H) → Nat
  | [] => 0
  | d :: r => uptoBulk d + uptoBulkAll r
def uptoBulkEntries {H : Type} : List (Lit × DataW H) → Nat
  | [] => 0
  | x :: r => uptoBulkEntry x + uptoBulkEntries r
def uptoBulkEntry {H : Type} : Lit × DataW H → Nat
  | (.string bytes, d) => bytes.length + uptoBulk d + 1
  | (_, d) => uptoBulk d + 1
 end
def uptoSmall : (H : Type) → List (DataW H) → Bool := fun _ ds => decide (uptoBulkAll ds ≤ 1048576)
def OpenSpec.upto (s : _root_.Go.ChangeSpec) : _root_.Go.OpenSpec := { _root_.Go.OpenSpec.ofChange s with cond := some uptoSmall }

/-- 'portolanlaw28.OverWindows', WHERE WHAT IT READS IS OF BULK AT MOST 1048576: true; the input reads as it did. -/
def overWindowsUptoRow : OpenClaim := { program := "ytfdjdfobhkmlpaa", sum := "55529ef8bf63066efe9f4b7d01ec3fd66ad63fc5a80cd1d53415520379259a96", func := "portolan/portolanlaw28.OverWindows", spec := "overWindows", unfollowed := true, recurses := true, named := ["math/bits.divideError", "math/bits.overflowError"], apart := false, narrowed := true }
def OverWindowsUptoSaid : Prop := overWindowsUptoRow.holds Try.pinned (OpenSpec.upto overWindowsSpec)

/-- 'portolanlaw28.OverSteps', WHERE WHAT IT READS IS OF BULK AT MOST 1048576: true; the input reads as it did. -/
def overStepsUptoRow : OpenClaim := { program := "ytfdjdfobhkmlpaa", sum := "55529ef8bf63066efe9f4b7d01ec3fd66ad63fc5a80cd1d53415520379259a96", func := "portolan/portolanlaw28.OverSteps", spec := "overSteps", unfollowed := true, recurses := true, named := ["math/bits.divideError", "math/bits.overflowError"], apart := false, narrowed := true }
def OverStepsUptoSaid : Prop := overStepsUptoRow.holds Try.pinned (OpenSpec.upto overStepsSpec)

/-- 'portolanlaw28.OverInside', WHERE WHAT IT READS IS OF BULK AT MOST 1048576: true; the input reads as it did. -/
def overInsideUptoRow : OpenClaim := { program := "ytfdjdfobhkmlpaa", sum := "55529ef8bf63066efe9f4b7d01ec3fd66ad63fc5a80cd1d53415520379259a96", func := "portolan/portolanlaw28.OverInside", spec := "overInside", unfollowed := true, recurses := true, named := ["math/bits.divideError", "math/bits.overflowError"], apart := false, narrowed := true }
def OverInsideUptoSaid : Prop := overInsideUptoRow.holds Try.pinned (OpenSpec.upto overInsideSpec)

end Rows
end Go.Proofs.Ytfdjdfobhkmlpaa
