/-
  HOW TEXTS AMONG THE ARGUMENTS ARE OPENED: a slice of strings, a string, a slice of truths, with the form's own reach as a bound.
  CONDITIONS: none beyond each lemma's own.
-/
import Derived.Test.YtanacapkfllbnaaGreatDoorR05
import Derived.Test.YtanacapkfllbnaaGreatDoorR27
import Derived.SliceStrings
set_option maxRecDepth 100000
set_option maxHeartbeats 4000000
namespace Go.Proofs.YtanacapkfllbnaaGreatDoor
open Go.ChangeShapes Go.WideShapes Go.ChangeAt Go.RowKit Go.Deep

section
variable {H:Type} {enc:TypeId × Value→H} {P:Program} {W:World}
end
end Go.Proofs.YtanacapkfllbnaaGreatDoor
