/-
  DERIVED. GIVEN WITH THE SEED: THE CARDS: each row of YtjalimkajcjapaaGreatDoorRows.lean that lists a variable, with what it lists TIED to the program's text (the seventh form; the later family's looks); each row that meets fmt, with fmt's text TOLD by the authors' own Lean function (tested against real Go, not proved from fmt's source: count such statements apart). THE CARD IS WHAT COUNTS. Prove the row's statement (the work); the ties are given (YtjalimkajcjapaaGreatDoorTie.lean); close each card by the builder's one call (the guide's Derived/Test/ToyasCard.lean, 'card_holds'). Laid BY PROGRAM, IN A SANDBOX (cutbox-door.mjs). By AI agents, Wed Nov 11 2026. No macro, syntax, notation, axiom, sorry.
-/
import Derived.Test.YtjalimkajcjapaaGreatDoorRows
import GoSem.ClaimSeven
namespace Go.Proofs.YtjalimkajcjapaaGreatDoor
namespace Rows

/-- THE TIED CARD OF 'portolanlaw28.OverLayers'. -/
def overLayersCard : Claim7 := { stood := { row := overLayersRow, standIns := [], harness := (true, "6bfa5bb7f736375b576417638fbb5b4f283f9f728b2d4eba0f213f5bf254a0d4"), looks := false }, kinds := [], alts := [], laidByText := true, laidKinds := [.data, .pinned], laidTests := true, laidLooks := .later }
def OverLayersCardSaid : Prop := Claim7.holds Tryz.pinned (.plain (OpenSpec.ofChange overLayersSpec)) overLayersCard

/-- THE SECOND FORM's CARD OF 'portolanlaw28.OverLayers'. -/
def overLayersUptoCard : Claim7 := { stood := { row := overLayersUptoRow, standIns := [], harness := (true, "6bfa5bb7f736375b576417638fbb5b4f283f9f728b2d4eba0f213f5bf254a0d4"), looks := false }, kinds := [], alts := [], laidByText := true, laidKinds := [.data, .pinned], laidTests := true, laidLooks := .later }
def OverLayersUptoCardSaid : Prop := Claim7.holds Tryz.pinned (.plain (OpenSpec.upto overLayersSpec)) overLayersUptoCard
end Rows
end Go.Proofs.YtjalimkajcjapaaGreatDoor
