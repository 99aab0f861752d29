/-
  Features by their fields (for the seat of tiles: the parts of OvCI that it needs).
-/
import Derived.Test.YtjalimkajcjapaaDoorChecked
import Derived.Test.YtjalimkajcjapaaDoorCore
namespace Go.Proofs.YtjalimkajcjapaaDoor
open Go.RowKit B

/-- a feature by its fields; paths and attributes as they lie -/
structure Ft where
  h : Bool
  id : Nat
  ty : Int
  pv : Value
  av : Value
def Ft.cells (f : Ft) : List Value := [.bool f.h, .int .u64 f.id, .int .i64 f.ty, f.pv, f.av]
def zeroFt : Ft := ⟨false, 0, 0, .slice none 0 0, .slice none 0 0⟩
end Go.Proofs.YtjalimkajcjapaaDoor
