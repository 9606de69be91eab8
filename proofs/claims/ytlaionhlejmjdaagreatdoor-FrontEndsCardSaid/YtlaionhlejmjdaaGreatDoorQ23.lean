/-
  LAYER 1's REFERENCE: Of, Set; the statement's size.
  CONDITIONS: as each says.
-/
import Derived.Test.YtlaionhlejmjdaaGreatDoorQ19
import Derived.Test.YtlaionhlejmjdaaGreatDoorQ20
import Derived.Test.YtlaionhlejmjdaaGreatDoorQ21
namespace Go.Proofs.YtlaionhlejmjdaaGreatDoor
open Go.RowKit

end Go.Proofs.YtlaionhlejmjdaaGreatDoor
