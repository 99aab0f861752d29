/-
  A row of spots: its value, and what lies in it.
-/
import Derived.Test.YtfdjdfobhkmlpaaChecked
import Derived.Test.YtfdjdfobhkmlpaaNorm
namespace Go.Proofs.Ytfdjdfobhkmlpaa

structure SRow where
  v : Value
  l : List Spot
end Go.Proofs.Ytfdjdfobhkmlpaa
