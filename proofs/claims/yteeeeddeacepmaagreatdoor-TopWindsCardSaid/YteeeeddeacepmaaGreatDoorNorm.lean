import Derived.Test.YteeeeddeacepmaaGreatDoorPtsA
import Derived.Deep.DeepMust
namespace Go.Proofs.YteeeeddeacepmaaGreatDoor
set_option maxRecDepth 100000
open Go.RowKit B
structure Spot where
 x : Fr
 y : Fr
def Spot.cells (s : Spot) : List Value := [.int .i64 s.x.q, .int .u64 s.x.r, .int .u64 s.x.d, .int .i64 s.y.q, .int .u64 s.y.r, .int .u64 s.y.d]
theorem Spot.cells_len (s : Spot) : s.cells.length = 6 := rfl
def Spot.ok (s : Spot) : Prop := s.x.ok /\ s.y.ok
def Spot.round (s : Spot) : Pt := ⟨s.x.round, s.y.round⟩
def Spots (l : List Spot) : List Value := l.flatMap Spot.cells
theorem el_pt : Elem Tryz.prog 22 36 (.agg #[.int .i64 0, .int .i64 0]) 2 16 := ⟨by kernel_rfl, by kernel_rfl, rfl, by decide, by decide⟩
