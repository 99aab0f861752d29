/-
  DERIVED. GIVEN WITH THE SEED: THE CARDS: each row of YtjalimkajcjapaaDoorRows.lean that lists a variable, with what it lists TIED to the program's text (the seventh form; the later family's looks); each row that meets fmt, with fmt's text TOLD by the authors' own Lean function (tested against real Go, not proved from fmt's source: count such statements apart). THE CARD IS WHAT COUNTS. Prove the row's statement (the work); the ties are given (YtjalimkajcjapaaDoorTie.lean); close each card by the builder's one call (the guide's Derived/Test/ToyasCard.lean, 'card_holds'). Laid BY PROGRAM, IN A SANDBOX (cutbox-door.mjs). By AI agents, Wed Nov 11 2026. No macro, syntax, notation, axiom, sorry.
-/
import Derived.Test.YtjalimkajcjapaaDoorRows
import GoSem.ClaimSeven
namespace Go.Proofs.YtjalimkajcjapaaDoor
namespace Rows

/-- THE TIED CARD OF 'portolanlaw10.TilePuts'. -/
def tilePutsCard : Claim7 := { stood := { row := tilePutsRow, standIns := [], harness := (true, "eb3ae6dc700dfdaa4c9e365e8cc37cf089948c64f79d1f9098894c89602fac52"), looks := true }, kinds := [], alts := [], laidByText := true, laidKinds := [.data, .pinned], laidTests := true, laidLooks := .later }
def TilePutsCardSaid : Prop := Claim7.holds Tryd.pinned (.plain (OpenSpec.ofChange tilePutsSpec)) tilePutsCard

/-- THE SECOND FORM's CARD OF 'portolanlaw10.TilePuts'. -/
def tilePutsUptoCard : Claim7 := { stood := { row := tilePutsUptoRow, standIns := [], harness := (true, "eb3ae6dc700dfdaa4c9e365e8cc37cf089948c64f79d1f9098894c89602fac52"), looks := true }, kinds := [], alts := [], laidByText := true, laidKinds := [.data, .pinned], laidTests := true, laidLooks := .later }
def TilePutsUptoCardSaid : Prop := Claim7.holds Tryd.pinned (.plain (OpenSpec.upto tilePutsSpec)) tilePutsUptoCard
end Rows
end Go.Proofs.YtjalimkajcjapaaDoor
