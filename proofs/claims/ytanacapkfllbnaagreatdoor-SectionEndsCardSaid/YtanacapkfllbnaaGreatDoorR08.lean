/-
  LAYER 15 (tree): quarter, outside, parted.
  CONDITIONS: as each says.
-/
import Derived.Test.YtanacapkfllbnaaGreatDoorR07
import Derived.Test.YtanacapkfllbnaaGreatDoorR00
import Derived.Deep.RegionLaw
set_option maxRecDepth 100000
set_option maxHeartbeats 4000000
namespace Go.Proofs.YtanacapkfllbnaaGreatDoor
open Go.RowKit

theorem own_new {w:World} {o:Obj} {v v':Value} (hat:v'.ownBlock=v.ownBlock ∨ v'.ownBlock=some (w.alloc o).heap.size):∀ x ∈ ownL v',x ∈ ownL v ∨ w.heap.size≤x:=fun x hx=>by
 rw [mem_ownL] at hx;rcases hat with h | h
 ·exact .inl (by rw [mem_ownL,← h];exact hx)
 ·rw [h] at hx;injection hx with hx
  subst hx;exact .inr (by simp)
end Go.Proofs.YtanacapkfllbnaaGreatDoor
