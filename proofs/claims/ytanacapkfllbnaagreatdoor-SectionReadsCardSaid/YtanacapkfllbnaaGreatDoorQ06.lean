/-
  append THAT FINDS NO ROOM, as one step of a region by facts: a new row, nothing else changes.
  CONDITIONS: as each says.
-/
import Derived.Test.YtanacapkfllbnaaGreatDoorQ04
import Derived.ArgAppend
set_option maxRecDepth 100000
set_option maxHeartbeats 4000000
namespace Go.Proofs.YtanacapkfllbnaaGreatDoor
open Go.RowKit

section
variable {P:Program} {w:World}
end
theorem Rd.part {w:World} {B:Nat} {A:Option Addr} {k:IntKind} {xs ys:List Int} (h:Rd w B A ((xs ++ ys).map (.int k))):Rd w B A (xs.map (.int k)):=by
  have:=h.take (xs.map (Value.int k)).length
  rwa [List.map_append,List.take_left'] at this
  rfl
end Go.Proofs.YtanacapkfllbnaaGreatDoor
