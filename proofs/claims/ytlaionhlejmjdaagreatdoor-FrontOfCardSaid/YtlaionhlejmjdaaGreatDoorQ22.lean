/-
  LAYER 1's REFERENCE: Of, Set; the statement's size.
  CONDITIONS: as each says.
-/
import Derived.Test.YtlaionhlejmjdaaGreatDoorQ18
import Derived.Test.YtlaionhlejmjdaaGreatDoorQ19
import Derived.Test.YtlaionhlejmjdaaGreatDoorQ20
namespace Go.Proofs.YtlaionhlejmjdaaGreatDoor
open Go.RowKit

theorem ownBlock_some {g n c k : Nat} (h : (Value.slice (some ⟨g, 0, none⟩) n c).ownBlock = some k) : g = k := by
  have h' : some g = some k := h
  injection h'
theorem badL_snoc {n : Nat} {l : List Int} {k : Nat} {x : Int} (h : badL n (l.take k) = false) (hx : l[k]? = some x) (h0 : 0 ≤ x) (h1 : x < (n : Int)) : badL n (l.take (k + 1)) = false := by
  rw [take_succ_of hx]
  unfold badL at h ⊢
  rw [List.any_append, h]
  simp [h0, h1]
theorem badL_at {n : Nat} {l : List Int} {k : Nat} {x : Int} (hx : l[k]? = some x) (h : ¬ (0 ≤ x ∧ x < (n : Int))) : badL n l = true := List.any_eq_true.2 ⟨x, List.mem_of_getElem? hx, by rw [decide_eq_false h]; rfl⟩
end Go.Proofs.YtlaionhlejmjdaaGreatDoor
