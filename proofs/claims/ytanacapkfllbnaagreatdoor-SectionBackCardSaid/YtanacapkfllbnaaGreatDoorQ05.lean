/-
  append THAT FINDS NO ROOM, as one step of a region by facts: a new row, nothing else changes.
  CONDITIONS: as each says.
-/
import Derived.Test.YtanacapkfllbnaaGreatDoorQ03
import Derived.ArgAppend
namespace Go.Proofs.YtanacapkfllbnaaGreatDoor
open Go.RowKit

section
variable {P : Program} {w : World}
end
/-- A part of what a slice reads. -/
theorem Rd.part {w : World} {B : Nat} {A : Option Addr} {k : IntKind} {xs ys : List Int} (h : Rd w B A ((xs ++ ys).map (.int k))) : Rd w B A (xs.map (.int k)) := by
  have := h.take (xs.map (Value.int k)).length
  rwa [List.map_append, List.take_left'] at this
  rfl
end Go.Proofs.YtanacapkfllbnaaGreatDoor
