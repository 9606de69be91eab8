/-
  bits.Len64 and bits.Len: the library's own text walked (laid by the shelf's template).
  CONDITIONS: the number is a uint64.
-/
import Derived.Test.YtpmdfklhgabfgaaChecked
import Derived.Lib.Strings
import Derived.Lib.Slices
import Derived.Lib.Small
import Derived.Lib.Walk
import Derived.Lib.BitFns
namespace Go.Proofs.Ytpmdfklhgabfgaa

end Go.Proofs.Ytpmdfklhgabfgaa
