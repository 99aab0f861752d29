/-
  DERIVED. GIVEN WITH THE SEED: THE CARDS: each row of YteeeeddeacepmaaGreatDoorRows.lean that lists a variable, with what it lists TIED to the program's text (the seventh form; the later family's looks); each row that meets fmt, with fmt's text TOLD by the authors' own Lean function (tested against real Go, not proved from fmt's source: count such statements apart). THE CARD IS WHAT COUNTS. Prove the row's statement (the work); the ties are given (YteeeeddeacepmaaGreatDoorTie.lean); close each card by the builder's one call (the guide's Derived/Test/ToyasCard.lean, 'card_holds'). Laid BY PROGRAM, IN A SANDBOX (cutbox-door.mjs). By AI agents, Wed Nov 11 2026. No macro, syntax, notation, axiom, sorry.
-/
import Derived.Test.YteeeeddeacepmaaGreatDoorRows
import GoSem.ClaimSeven
namespace Go.Proofs.YteeeeddeacepmaaGreatDoor
namespace Rows

/-- THE TIED CARD OF 'portolantop.TopWinds'. -/
def topWindsCard : Claim7 := { stood := { row := topWindsRow, standIns := [], harness := (true, "5d59d3a4431d2407c035bb3da88d014344a2ee4988616d278d1f876099f0732f"), looks := true }, kinds := [], alts := [], laidByText := true, laidKinds := [.pinned, .data, .data, .data, .data, .sentinel, .sentinel], laidTests := true, laidLooks := .later }
def TopWindsCardSaid : Prop := Claim7.holds Tryz.pinned (.plain (OpenSpec.ofChange topWindsSpec)) topWindsCard

/-- THE SECOND FORM's CARD OF 'portolantop.TopWinds'. -/
def topWindsUptoCard : Claim7 := { stood := { row := topWindsUptoRow, standIns := [], harness := (true, "5d59d3a4431d2407c035bb3da88d014344a2ee4988616d278d1f876099f0732f"), looks := true }, kinds := [], alts := [], laidByText := true, laidKinds := [.pinned, .data, .data, .data, .data, .sentinel, .sentinel], laidTests := true, laidLooks := .later }
def TopWindsUptoCardSaid : Prop := Claim7.holds Tryz.pinned (.plain (OpenSpec.upto topWindsSpec)) topWindsUptoCard
end Rows
end Go.Proofs.YteeeeddeacepmaaGreatDoor
