/-
  HOW TEXTS AMONG THE ARGUMENTS ARE OPENED: a slice of strings, a string, a slice of truths, with the form's own reach as a bound.
  CONDITIONS: none beyond each lemma's own.
-/
import Derived.Test.YtlaionhlejmjdaaGreatDoorQ05
import Derived.Test.YtlaionhlejmjdaaGreatDoorQ21
import Derived.SliceStrings
namespace Go.Proofs.YtlaionhlejmjdaaGreatDoor
open Go.ChangeShapes Go.WideShapes Go.ChangeAt Go.RowKit Go.Deep

section
variable {H : Type} {enc : TypeId × Value → H} {P : Program} {W : World}
end
end Go.Proofs.YtlaionhlejmjdaaGreatDoor
