/-
  LAYER 15 (tree): a tree in memory; Of.
  CONDITIONS: as each says.
-/
import Derived.Test.YtanacapkfllbnaaGreatDoorQ08
import Derived.Test.YtanacapkfllbnaaGreatDoorQ18
import Derived.Test.YtanacapkfllbnaaGreatDoorQ09
namespace Go.Proofs.YtanacapkfllbnaaGreatDoor
open Go.RowKit

end Go.Proofs.YtanacapkfllbnaaGreatDoor
