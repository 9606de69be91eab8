/-
  LAYER 15 (tree): Kids, Has, Bytes.
  LAYER 15 (tree): Has, Bytes.
  LAYER 15 (tree), plain: where the kids of a node stand; whether a pair is there; the pairs that bits are of.
  LAYER 15 (tree), plain: the pairs that bits are of, level by level; the bits hang on the set of pairs alone.
  LAYER 15 (tree): grown.
  CONDITIONS: as each lemma says.
-/
import Derived.Test.YtanacapkfllbnaaGreatDoorR22
import Derived.Test.YtanacapkfllbnaaGreatDoorR19
import Derived.Test.YtanacapkfllbnaaGreatDoorR09
import Derived.Deep.RegionHeld3
import Derived.Deep.DeepCutAuto
set_option maxRecDepth 100000
set_option maxHeartbeats 4000000
namespace Go.Proofs.YtanacapkfllbnaaGreatDoor
open Go.RowKit
end Go.Proofs.YtanacapkfllbnaaGreatDoor
namespace Go.Proofs.YtanacapkfllbnaaGreatDoor
end Go.Proofs.YtanacapkfllbnaaGreatDoor
namespace Go.Proofs.YtanacapkfllbnaaGreatDoor
open Go.RowKit

end Go.Proofs.YtanacapkfllbnaaGreatDoor
