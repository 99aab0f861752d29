/-
  The laws' own helpers of chapter 22: live, code, two; WideMuls.
-/
import Derived.Test.YtjcgkhcbdbbdkaaChecked
import Derived.Test.YtjcgkhcbdbbdkaaMulDiv
import Derived.Test.YtjcgkhcbdbbdkaaBigM
import Derived.Test.YtjcgkhcbdbbdkaaFrac
namespace Go.Proofs.Ytjcgkhcbdbbdkaa
open Go.RowKit Go.Lib B


end Go.Proofs.Ytjcgkhcbdbbdkaa
