/-
  DERIVED. GIVEN WITH THE SEED: THE CARDS: each row of YtfdjdfobhkmlpaaDoorRows.lean that lists a variable, with what it lists TIED to the program's text (the seventh form; the later family's looks); each row that meets fmt, with fmt's text TOLD by the authors' own Lean function (tested against real Go, not proved from fmt's source: count such statements apart). THE CARD IS WHAT COUNTS. Prove the row's statement (the work); the ties are given (YtfdjdfobhkmlpaaDoorTie.lean); close each card by the builder's one call (the guide's Derived/Test/ToyasCard.lean, 'card_holds'). Laid BY PROGRAM, IN A SANDBOX (cutbox-door.mjs). By AI agents, Wed Nov 11 2026. No macro, syntax, notation, axiom, sorry.
-/
import Derived.Test.YtfdjdfobhkmlpaaDoorRows
import GoSem.ClaimSeven
namespace Go.Proofs.YtfdjdfobhkmlpaaDoor
namespace Rows

/-- THE TIED CARD OF 'portolanlaw10.TileSames'. -/
def tileSamesCard : Claim7 := { stood := { row := tileSamesRow, standIns := [], harness := (true, "d5f9b64257de772b065b43bfac5c63510d33dab3c80725be5efbc8056793ffdd"), looks := true }, kinds := [], alts := [], laidByText := true, laidKinds := [.data, .pinned], laidTests := true, laidLooks := .later }
def TileSamesCardSaid : Prop := Claim7.holds Tryd.pinned (.plain (OpenSpec.ofChange tileSamesSpec)) tileSamesCard

/-- THE TIED CARD OF 'portolanlaw10.TilePuts'. -/
def tilePutsCard : Claim7 := { stood := { row := tilePutsRow, standIns := [], harness := (true, "d5f9b64257de772b065b43bfac5c63510d33dab3c80725be5efbc8056793ffdd"), looks := true }, kinds := [], alts := [], laidByText := true, laidKinds := [.data, .pinned], laidTests := true, laidLooks := .later }
def TilePutsCardSaid : Prop := Claim7.holds Tryd.pinned (.plain (OpenSpec.ofChange tilePutsSpec)) tilePutsCard

/-- THE TIED CARD OF 'portolanlaw10.TileGets'. -/
def tileGetsCard : Claim7 := { stood := { row := tileGetsRow, standIns := [], harness := (true, "d5f9b64257de772b065b43bfac5c63510d33dab3c80725be5efbc8056793ffdd"), looks := true }, kinds := [], alts := [], laidByText := true, laidKinds := [.data, .pinned], laidTests := true, laidLooks := .later }
def TileGetsCardSaid : Prop := Claim7.holds Tryd.pinned (.plain (OpenSpec.ofChange tileGetsSpec)) tileGetsCard

/-- THE SECOND FORM's CARD OF 'portolanlaw10.TileSames'. -/
def tileSamesUptoCard : Claim7 := { stood := { row := tileSamesUptoRow, standIns := [], harness := (true, "d5f9b64257de772b065b43bfac5c63510d33dab3c80725be5efbc8056793ffdd"), looks := true }, kinds := [], alts := [], laidByText := true, laidKinds := [.data, .pinned], laidTests := true, laidLooks := .later }
def TileSamesUptoCardSaid : Prop := Claim7.holds Tryd.pinned (.plain (OpenSpec.upto tileSamesSpec)) tileSamesUptoCard

/-- THE SECOND FORM's CARD OF 'portolanlaw10.TilePuts'. -/
def tilePutsUptoCard : Claim7 := { stood := { row := tilePutsUptoRow, standIns := [], harness := (true, "d5f9b64257de772b065b43bfac5c63510d33dab3c80725be5efbc8056793ffdd"), looks := true }, kinds := [], alts := [], laidByText := true, laidKinds := [.data, .pinned], laidTests := true, laidLooks := .later }
def TilePutsUptoCardSaid : Prop := Claim7.holds Tryd.pinned (.plain (OpenSpec.upto tilePutsSpec)) tilePutsUptoCard

/-- THE SECOND FORM's CARD OF 'portolanlaw10.TileGets'. -/
def tileGetsUptoCard : Claim7 := { stood := { row := tileGetsUptoRow, standIns := [], harness := (true, "d5f9b64257de772b065b43bfac5c63510d33dab3c80725be5efbc8056793ffdd"), looks := true }, kinds := [], alts := [], laidByText := true, laidKinds := [.data, .pinned], laidTests := true, laidLooks := .later }
def TileGetsUptoCardSaid : Prop := Claim7.holds Tryd.pinned (.plain (OpenSpec.upto tileGetsSpec)) tileGetsUptoCard
end Rows
end Go.Proofs.YtfdjdfobhkmlpaaDoor
