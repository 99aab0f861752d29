import Derived.Test.YtfdjdfobhkmlpaaGreatCrossA
namespace Go.Proofs.YtfdjdfobhkmlpaaGreat
set_option maxRecDepth 100000
open Go.RowKit Go.Lib B
end Go.Proofs.YtfdjdfobhkmlpaaGreat
