import Derived.Test.YteeeeddeacepmaaGreatDoorRngA
namespace Go.Proofs.YteeeeddeacepmaaGreatDoor
set_option maxRecDepth 100000
open Go.RowKit B
structure Wn where
 n : Int
 d : Int
 c : Int
 up : Bool
 en : Bool
def Wn.cells (a : Wn) : List Value := [.int .i64 a.n, .int .i64 a.d, .int .i64 a.c, .bool a.up, .bool a.en]
theorem Wn.cells_len (a : Wn) : a.cells.length = 5 := rfl
def Wn.ok (a : Wn) : Prop := I64 a.n /\ I64 a.d
def Wn.after (a b : Wn) : Bool := decide (0 < cmpW a.n b.d b.n a.d)
end Go.Proofs.YteeeeddeacepmaaGreatDoor
namespace Go.Proofs.YteeeeddeacepmaaGreatDoor
set_option maxRecDepth 100000
open Go.RowKit B
end Go.Proofs.YteeeeddeacepmaaGreatDoor
namespace Go.Proofs.YteeeeddeacepmaaGreatDoor
set_option maxRecDepth 100000
open Go.RowKit B
def W0 : Wn := ⟨0, 1, 0, false, true⟩
def W1 : Wn := ⟨1, 1, 0, false, true⟩
end Go.Proofs.YteeeeddeacepmaaGreatDoor
