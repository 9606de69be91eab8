/-
  LAYER 15 (tree): a tree in memory; Of.
  CONDITIONS: as each says.
-/
import Derived.Test.YtanacapkfllbnaaGreatDoorR09
import Derived.Test.YtanacapkfllbnaaGreatDoorR19
import Derived.Test.YtanacapkfllbnaaGreatDoorR10
set_option maxRecDepth 100000
set_option maxHeartbeats 4000000
namespace Go.Proofs.YtanacapkfllbnaaGreatDoor
open Go.RowKit

end Go.Proofs.YtanacapkfllbnaaGreatDoor
