/-
  LAYER 15 (tree): levels.
  LAYER 15 (tree): levels, the walk.
  CONDITIONS: as each lemma says.
-/
import Derived.Test.YtanacapkfllbnaaGreatDoorR08
import Derived.Deep.DeepCutAuto
set_option maxRecDepth 100000
set_option maxHeartbeats 4000000
namespace Go.Proofs.YtanacapkfllbnaaGreatDoor
open Go.RowKit

theorem app_facts {w w2:World} {o:Obj} {v v':Value} (hg:(w.alloc o).grownBy w2 v.ownBlock) (hat:v'.ownBlock=v.ownBlock ∨ v'.ownBlock=some (w.alloc o).heap.size):Kp (ownL v) w w2∧∀ x ∈ ownL v',x ∈ ownL v ∨ w.heap.size≤x:=
 ⟨((Kp.refl _ w).alloc o).grown hg (fun _ hb=>.inl (mem_ownL.2 hb)),own_new hat⟩
end Go.Proofs.YtanacapkfllbnaaGreatDoor
