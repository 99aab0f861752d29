import Derived.Test.YteeeeddeacepmaaGreatDoorLParts
namespace Go.Proofs.YteeeeddeacepmaaGreatDoor
set_option maxRecDepth 100000
open Go.RowKit B
abbrev LS := List (List Spot) × List Spot
end Go.Proofs.YteeeeddeacepmaaGreatDoor
