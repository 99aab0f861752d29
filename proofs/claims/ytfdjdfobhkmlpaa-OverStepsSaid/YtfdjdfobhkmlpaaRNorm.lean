import Derived.Test.YtfdjdfobhkmlpaaChecked
import Derived.Test.YtfdjdfobhkmlpaaCore
import Derived.Test.YtfdjdfobhkmlpaaNorm
import Derived.Test.YtfdjdfobhkmlpaaSimp
namespace Go.Proofs.Ytfdjdfobhkmlpaa
open Go.RowKit Go.Lib B

theorem round_wrong {f : Fr} (h : f.right = false) : f.round = 0 := by simp [Fr.round, h]
