/-
  THE LAWS' LENT TEXTS: a list of texts lent with marks behind it; are they kept.
  THE LAWS' LENT TEXTS, second part: LentTexts, KeptTexts.
  CONDITIONS: as each lemma says.
-/
import Derived.Test.YtlaionhlejmjdaaGreatDoorQ31
import Derived.Test.YtlaionhlejmjdaaGreatDoorQ07
import Derived.Test.YtlaionhlejmjdaaGreatDoorQ09
import Derived.Test.YtlaionhlejmjdaaGreatDoorQ33
namespace Go.Proofs.YtlaionhlejmjdaaGreatDoor
open Go.RowKit

end Go.Proofs.YtlaionhlejmjdaaGreatDoor
namespace Go.Proofs.YtlaionhlejmjdaaGreatDoor
open Go.RowKit

end Go.Proofs.YtlaionhlejmjdaaGreatDoor
