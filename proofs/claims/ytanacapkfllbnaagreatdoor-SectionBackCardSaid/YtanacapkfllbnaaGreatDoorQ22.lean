/-
  LAYER 15 (tree): Kids, Has, Bytes.
  LAYER 15 (tree): Has, Bytes.
  LAYER 15 (tree), plain: where the kids of a node stand; whether a pair is there; the pairs that bits are of.
  LAYER 15 (tree), plain: the pairs that bits are of, level by level; the bits hang on the set of pairs alone.
  LAYER 15 (tree): grown.
  CONDITIONS: as each lemma says.
-/
import Derived.Test.YtanacapkfllbnaaGreatDoorQ21
import Derived.Test.YtanacapkfllbnaaGreatDoorQ18
import Derived.Test.YtanacapkfllbnaaGreatDoorQ08
import Derived.Deep.RegionHeld3
import Derived.Deep.DeepCutAuto
namespace Go.Proofs.YtanacapkfllbnaaGreatDoor
open Go.RowKit

end Go.Proofs.YtanacapkfllbnaaGreatDoor
namespace Go.Proofs.YtanacapkfllbnaaGreatDoor
open Go.RowKit

end Go.Proofs.YtanacapkfllbnaaGreatDoor
namespace Go.Proofs.YtanacapkfllbnaaGreatDoor

end Go.Proofs.YtanacapkfllbnaaGreatDoor
namespace Go.Proofs.YtanacapkfllbnaaGreatDoor

end Go.Proofs.YtanacapkfllbnaaGreatDoor
namespace Go.Proofs.YtanacapkfllbnaaGreatDoor
open Go.RowKit

end Go.Proofs.YtanacapkfllbnaaGreatDoor
