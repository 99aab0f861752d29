/-
  No cell of these rows narrows 'for every input' (looked for: loops, veiled, ifaces, maps, wideKeys, modest, calm, conditions, laid).
  DERIVED. THE GIVEN ROWS OF THIS SEAT. 8 by the template 'for every input the law returns true; each argument reads behind the call as it read before'; 0 by the template 'total and deterministic' (their statements: YtehffeglgdcogaaTotals.lean).
  GIVEN WITH THE SEED: the statements are not yours to turn. If you find one false, say at which input.
  Laid BY PROGRAM, IN A SANDBOX (cutbox-rows.mjs): the forced cells as the released guide's own fill.sh prints them over the translation baa9d285ab4317e4… (all of the seat's roots in one cut). By AI agents, Wed Nov 11 2026. No macro, syntax, notation, axiom, sorry.
-/
import Derived.Test.YtehffeglgdcogaaChecked
import GoSem.Claim
import GoSem.ClaimJoined
import GoSem.ClaimMapViews
import Derived.JoinedTies
import Derived.KernelRfl
namespace Go.Proofs.Ytehffeglgdcogaa
/- THE CELL 'sum', in the pinned program and in every row, IS THE sha256 OF THE DUMP (.gsa) THAT YtehffeglgdcogaaProg.lean LOADS. Nothing in Lean hashes anything: it is a label: what it is worth is what the hold of that sum in a sandbox is worth. -/
noncomputable def Try.pinned : Pinned := { name := "ytehffeglgdcogaa", sum := "baa9d285ab4317e404280faf9c92fdb199f8257c460c8ee00770b3acd79100a4", checked := Try.checked }
namespace Rows
def none {H : Type} : Left H := { results := [], args := [] }

/-- 'portolanlaw07.WireNumbers': WHATEVER THE INPUT: true; the input reads as it did. -/
def wireNumbersSpec : ChangeSpec := { name := "wireNumbers", fn := fun _ => fun
  | [d1, d2, d3, d4] => { results := [.lit (.bool true)], args := [d1, d2, d3, d4] }
  | _ => none }
def wireNumbersRow : OpenClaim := { program := "ytehffeglgdcogaa", sum := "baa9d285ab4317e404280faf9c92fdb199f8257c460c8ee00770b3acd79100a4", func := "portolan/portolanlaw07.WireNumbers", spec := "wireNumbers", apart := false }
def WireNumbersSaid : Prop := wireNumbersRow.holds Try.pinned (OpenSpec.ofChange wireNumbersSpec)

/-- ITS FALSE NEIGHBOUR: 'it returns false'. Refute it at one input. -/
def wireNumbersWrong : ChangeSpec := { name := "wireNumbers", fn := fun _ => fun
  | [d1, d2, d3, d4] => { results := [.lit (.bool false)], args := [d1, d2, d3, d4] }
  | _ => none }
def WireNumbersWrongFalsely : Prop := wireNumbersRow.holds Try.pinned (OpenSpec.ofChange wireNumbersWrong)

/-- 'portolanlaw07.WirePuts': WHATEVER THE INPUT: true; the input reads as it did. -/
def wirePutsSpec : ChangeSpec := { name := "wirePuts", fn := fun _ => fun
  | [d1, d2] => { results := [.lit (.bool true)], args := [d1, d2] }
  | _ => none }
def wirePutsRow : OpenClaim := { program := "ytehffeglgdcogaa", sum := "baa9d285ab4317e404280faf9c92fdb199f8257c460c8ee00770b3acd79100a4", func := "portolan/portolanlaw07.WirePuts", spec := "wirePuts", unfollowed := true, recurses := true, apart := false }
def WirePutsSaid : Prop := wirePutsRow.holds Try.pinned (OpenSpec.ofChange wirePutsSpec)

/-- ITS FALSE NEIGHBOUR: 'it returns false'. Refute it at one input. -/
def wirePutsWrong : ChangeSpec := { name := "wirePuts", fn := fun _ => fun
  | [d1, d2] => { results := [.lit (.bool false)], args := [d1, d2] }
  | _ => none }
def WirePutsWrongFalsely : Prop := wirePutsRow.holds Try.pinned (OpenSpec.ofChange wirePutsWrong)

/-- 'portolanlaw09.PathSames': WHATEVER THE INPUT: true; the input reads as it did. -/
def pathSamesSpec : ChangeSpec := { name := "pathSames", fn := fun _ => fun
  | [d1, d2] => { results := [.lit (.bool true)], args := [d1, d2] }
  | _ => none }
def pathSamesRow : OpenClaim := { program := "ytehffeglgdcogaa", sum := "baa9d285ab4317e404280faf9c92fdb199f8257c460c8ee00770b3acd79100a4", func := "portolan/portolanlaw09.PathSames", spec := "pathSames", unfollowed := true, recurses := true, apart := false }
def PathSamesSaid : Prop := pathSamesRow.holds Try.pinned (OpenSpec.ofChange pathSamesSpec)

/-- ITS FALSE NEIGHBOUR: 'it returns false'. Refute it at one input. -/
def pathSamesWrong : ChangeSpec := { name := "pathSames", fn := fun _ => fun
  | [d1, d2] => { results := [.lit (.bool false)], args := [d1, d2] }
  | _ => none }
def PathSamesWrongFalsely : Prop := pathSamesRow.holds Try.pinned (OpenSpec.ofChange pathSamesWrong)

/-- 'portolanlaw07.WirePacks': WHATEVER THE INPUT: true; the input reads as it did. -/
def wirePacksSpec : ChangeSpec := { name := "wirePacks", fn := fun _ => fun
  | [d1, d2] => { results := [.lit (.bool true)], args := [d1, d2] }
  | _ => none }
def wirePacksRow : OpenClaim := { program := "ytehffeglgdcogaa", sum := "baa9d285ab4317e404280faf9c92fdb199f8257c460c8ee00770b3acd79100a4", func := "portolan/portolanlaw07.WirePacks", spec := "wirePacks", apart := false }
def WirePacksSaid : Prop := wirePacksRow.holds Try.pinned (OpenSpec.ofChange wirePacksSpec)

/-- ITS FALSE NEIGHBOUR: 'it returns false'. Refute it at one input. -/
def wirePacksWrong : ChangeSpec := { name := "wirePacks", fn := fun _ => fun
  | [d1, d2] => { results := [.lit (.bool false)], args := [d1, d2] }
  | _ => none }
def WirePacksWrongFalsely : Prop := wirePacksRow.holds Try.pinned (OpenSpec.ofChange wirePacksWrong)

/-- 'portolanlaw09.PathDecodes': WHATEVER THE INPUT: true; the input reads as it did. -/
def pathDecodesSpec : ChangeSpec := { name := "pathDecodes", fn := fun _ => fun
  | [d1, d2] => { results := [.lit (.bool true)], args := [d1, d2] }
  | _ => none }
def pathDecodesRow : OpenClaim := { program := "ytehffeglgdcogaa", sum := "baa9d285ab4317e404280faf9c92fdb199f8257c460c8ee00770b3acd79100a4", func := "portolan/portolanlaw09.PathDecodes", spec := "pathDecodes", unfollowed := true, recurses := true, apart := false }
def PathDecodesSaid : Prop := pathDecodesRow.holds Try.pinned (OpenSpec.ofChange pathDecodesSpec)

/-- ITS FALSE NEIGHBOUR: 'it returns false'. Refute it at one input. -/
def pathDecodesWrong : ChangeSpec := { name := "pathDecodes", fn := fun _ => fun
  | [d1, d2] => { results := [.lit (.bool false)], args := [d1, d2] }
  | _ => none }
def PathDecodesWrongFalsely : Prop := pathDecodesRow.holds Try.pinned (OpenSpec.ofChange pathDecodesWrong)

/-- 'portolanlaw09.PathEncodes': WHATEVER THE INPUT: true; the input reads as it did. -/
def pathEncodesSpec : ChangeSpec := { name := "pathEncodes", fn := fun _ => fun
  | [d1, d2] => { results := [.lit (.bool true)], args := [d1, d2] }
  | _ => none }
def pathEncodesRow : OpenClaim := { program := "ytehffeglgdcogaa", sum := "baa9d285ab4317e404280faf9c92fdb199f8257c460c8ee00770b3acd79100a4", func := "portolan/portolanlaw09.PathEncodes", spec := "pathEncodes", unfollowed := true, recurses := true, apart := false }
def PathEncodesSaid : Prop := pathEncodesRow.holds Try.pinned (OpenSpec.ofChange pathEncodesSpec)

/-- ITS FALSE NEIGHBOUR: 'it returns false'. Refute it at one input. -/
def pathEncodesWrong : ChangeSpec := { name := "pathEncodes", fn := fun _ => fun
  | [d1, d2] => { results := [.lit (.bool false)], args := [d1, d2] }
  | _ => none }
def PathEncodesWrongFalsely : Prop := pathEncodesRow.holds Try.pinned (OpenSpec.ofChange pathEncodesWrong)

/-- 'portolanlaw07.WireGets': WHATEVER THE INPUT: true; the input reads as it did. -/
def wireGetsSpec : ChangeSpec := { name := "wireGets", fn := fun _ => fun
  | [d] => { results := [.lit (.bool true)], args := [d] }
  | _ => none }
def wireGetsRow : OpenClaim := { program := "ytehffeglgdcogaa", sum := "baa9d285ab4317e404280faf9c92fdb199f8257c460c8ee00770b3acd79100a4", func := "portolan/portolanlaw07.WireGets", spec := "wireGets", apart := false }
def WireGetsSaid : Prop := wireGetsRow.holds Try.pinned (OpenSpec.ofChange wireGetsSpec)

/-- ITS FALSE NEIGHBOUR: 'it returns false'. Refute it at one input. -/
def wireGetsWrong : ChangeSpec := { name := "wireGets", fn := fun _ => fun
  | [d] => { results := [.lit (.bool false)], args := [d] }
  | _ => none }
def WireGetsWrongFalsely : Prop := wireGetsRow.holds Try.pinned (OpenSpec.ofChange wireGetsWrong)

/-- 'portolanlaw07.WireJoins': WHATEVER THE INPUT: true; the input reads as it did. -/
def wireJoinsSpec : ChangeSpec := { name := "wireJoins", fn := fun _ => fun
  | [d1, d2] => { results := [.lit (.bool true)], args := [d1, d2] }
  | _ => none }
def wireJoinsRow : OpenClaim := { program := "ytehffeglgdcogaa", sum := "baa9d285ab4317e404280faf9c92fdb199f8257c460c8ee00770b3acd79100a4", func := "portolan/portolanlaw07.WireJoins", spec := "wireJoins", apart := false }
def WireJoinsSaid : Prop := wireJoinsRow.holds Try.pinned (OpenSpec.ofChange wireJoinsSpec)

/-- ITS FALSE NEIGHBOUR: 'it returns false'. Refute it at one input. -/
def wireJoinsWrong : ChangeSpec := { name := "wireJoins", fn := fun _ => fun
  | [d1, d2] => { results := [.lit (.bool false)], args := [d1, d2] }
  | _ => none }
def WireJoinsWrongFalsely : Prop := wireJoinsRow.holds Try.pinned (OpenSpec.ofChange wireJoinsWrong)

/- THE SECOND FORM. 'bulk': how many values and letters a reading holds, each counted each time it is reached (what is shared counts as often as it is met; a slice's spare places count too). A statement '..UptoSaid' is the law's where the arguments, and the package variables that the reading takes, are together of bulk at most 1048576: NARROWER than '..Said'. Prove '..Said' where nothing that the law and all that it calls make is longer than what came in: it says more and counts as full. Else prove '..UptoSaid'. A law counts once. -/
mutual
def uptoBulk {H : Type} : DataW H → Nat
  | .lit (.string bytes) => bytes.length + 1
  | .lit _ => 1
  | .nil => 1
  | .ptr d => uptoBulk d + 1
  | .slice elems spare => uptoBulkAll elems + uptoBulkAll spare + 1
  | .agg parts => uptoBulkAll parts + 1
  | .iface _ d => uptoBulk d + 1
  | .map entries => uptoBulkEntries entries + 1
  | .held _ => 1
def uptoBulkAll {H : Type} : List (DataW H) → Nat
  | [] => 0
  | d :: r => uptoBulk d + uptoBulkAll r
def uptoBulkEntries {H : Type} : List (Lit × DataW H) → Nat
  | [] => 0
  | x :: r => uptoBulkEntry x + uptoBulkEntries r
def uptoBulkEntry {H : Type} : Lit × DataW H → Nat
  | (.string bytes, d) => bytes.length + uptoBulk d + 1
  | (_, d) => uptoBulk d + 1
 end
def uptoSmall : (H : Type) → List (DataW H) → Bool := fun _ ds => decide (uptoBulkAll ds ≤ 1048576)
def OpenSpec.upto (s : _root_.Go.ChangeSpec) : _root_.Go.OpenSpec := { _root_.Go.OpenSpec.ofChange s with cond := some uptoSmall }

/-- 'portolanlaw07.WireNumbers', WHERE WHAT IT READS IS OF BULK AT MOST 1048576: true; the input reads as it did. -/
def wireNumbersUptoRow : OpenClaim := { program := "ytehffeglgdcogaa", sum := "baa9d285ab4317e404280faf9c92fdb199f8257c460c8ee00770b3acd79100a4", func := "portolan/portolanlaw07.WireNumbers", spec := "wireNumbers", apart := false, narrowed := true }
def WireNumbersUptoSaid : Prop := wireNumbersUptoRow.holds Try.pinned (OpenSpec.upto wireNumbersSpec)

/-- 'portolanlaw07.WirePuts', WHERE WHAT IT READS IS OF BULK AT MOST 1048576: true; the input reads as it did. -/
def wirePutsUptoRow : OpenClaim := { program := "ytehffeglgdcogaa", sum := "baa9d285ab4317e404280faf9c92fdb199f8257c460c8ee00770b3acd79100a4", func := "portolan/portolanlaw07.WirePuts", spec := "wirePuts", unfollowed := true, recurses := true, apart := false, narrowed := true }
def WirePutsUptoSaid : Prop := wirePutsUptoRow.holds Try.pinned (OpenSpec.upto wirePutsSpec)

/-- 'portolanlaw09.PathSames', WHERE WHAT IT READS IS OF BULK AT MOST 1048576: true; the input reads as it did. -/
def pathSamesUptoRow : OpenClaim := { program := "ytehffeglgdcogaa", sum := "baa9d285ab4317e404280faf9c92fdb199f8257c460c8ee00770b3acd79100a4", func := "portolan/portolanlaw09.PathSames", spec := "pathSames", unfollowed := true, recurses := true, apart := false, narrowed := true }
def PathSamesUptoSaid : Prop := pathSamesUptoRow.holds Try.pinned (OpenSpec.upto pathSamesSpec)

/-- 'portolanlaw07.WirePacks', WHERE WHAT IT READS IS OF BULK AT MOST 1048576: true; the input reads as it did. -/
def wirePacksUptoRow : OpenClaim := { program := "ytehffeglgdcogaa", sum := "baa9d285ab4317e404280faf9c92fdb199f8257c460c8ee00770b3acd79100a4", func := "portolan/portolanlaw07.WirePacks", spec := "wirePacks", apart := false, narrowed := true }
def WirePacksUptoSaid : Prop := wirePacksUptoRow.holds Try.pinned (OpenSpec.upto wirePacksSpec)

/-- 'portolanlaw09.PathDecodes', WHERE WHAT IT READS IS OF BULK AT MOST 1048576: true; the input reads as it did. -/
def pathDecodesUptoRow : OpenClaim := { program := "ytehffeglgdcogaa", sum := "baa9d285ab4317e404280faf9c92fdb199f8257c460c8ee00770b3acd79100a4", func := "portolan/portolanlaw09.PathDecodes", spec := "pathDecodes", unfollowed := true, recurses := true, apart := false, narrowed := true }
def PathDecodesUptoSaid : Prop := pathDecodesUptoRow.holds Try.pinned (OpenSpec.upto pathDecodesSpec)

/-- 'portolanlaw09.PathEncodes', WHERE WHAT IT READS IS OF BULK AT MOST 1048576: true; the input reads as it did. -/
def pathEncodesUptoRow : OpenClaim := { program := "ytehffeglgdcogaa", sum := "baa9d285ab4317e404280faf9c92fdb199f8257c460c8ee00770b3acd79100a4", func := "portolan/portolanlaw09.PathEncodes", spec := "pathEncodes", unfollowed := true, recurses := true, apart := false, narrowed := true }
def PathEncodesUptoSaid : Prop := pathEncodesUptoRow.holds Try.pinned (OpenSpec.upto pathEncodesSpec)

/-- 'portolanlaw07.WireGets', WHERE WHAT IT READS IS OF BULK AT MOST 1048576: true; the input reads as it did. -/
def wireGetsUptoRow : OpenClaim := { program := "ytehffeglgdcogaa", sum := "baa9d285ab4317e404280faf9c92fdb199f8257c460c8ee00770b3acd79100a4", func := "portolan/portolanlaw07.WireGets", spec := "wireGets", apart := false, narrowed := true }
def WireGetsUptoSaid : Prop := wireGetsUptoRow.holds Try.pinned (OpenSpec.upto wireGetsSpec)

/-- 'portolanlaw07.WireJoins', WHERE WHAT IT READS IS OF BULK AT MOST 1048576: true; the input reads as it did. -/
def wireJoinsUptoRow : OpenClaim := { program := "ytehffeglgdcogaa", sum := "baa9d285ab4317e404280faf9c92fdb199f8257c460c8ee00770b3acd79100a4", func := "portolan/portolanlaw07.WireJoins", spec := "wireJoins", apart := false, narrowed := true }
def WireJoinsUptoSaid : Prop := wireJoinsUptoRow.holds Try.pinned (OpenSpec.upto wireJoinsSpec)

end Rows
end Go.Proofs.Ytehffeglgdcogaa
