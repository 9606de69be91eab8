/-
  LAYER 1's REFERENCE: Of, Set; the statement's size.
  CONDITIONS: as each says.
-/
import Derived.Test.YtanacapkfllbnaaGreatDoorQ18
import Derived.Test.YtanacapkfllbnaaGreatDoorQ19
import Derived.Test.YtanacapkfllbnaaGreatDoorQ26
namespace Go.Proofs.YtanacapkfllbnaaGreatDoor
open Go.RowKit

end Go.Proofs.YtanacapkfllbnaaGreatDoor
