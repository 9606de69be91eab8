/-
  LAYER 1's REFERENCE: Of, Set; the statement's size.
  CONDITIONS: as each says.
-/
import Derived.Test.YtanacapkfllbnaaGreatDoorQ20
import Derived.Test.YtanacapkfllbnaaGreatDoorQ21
import Derived.Test.YtanacapkfllbnaaGreatDoorQ25
namespace Go.Proofs.YtanacapkfllbnaaGreatDoor
open Go.RowKit

end Go.Proofs.YtanacapkfllbnaaGreatDoor
