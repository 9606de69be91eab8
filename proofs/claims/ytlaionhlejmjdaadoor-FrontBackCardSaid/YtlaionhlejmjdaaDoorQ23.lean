/-
  LAYER 6's REFERENCE: the next word.
  CONDITIONS: words of at most 10^6 bits, one at least.
-/
import Derived.Test.YtlaionhlejmjdaaDoorQ12
import Derived.Test.YtlaionhlejmjdaaDoorQ22
namespace Go.Proofs.YtlaionhlejmjdaaDoor
open Go.RowKit

theorem incW_mid (p : List Bool) (k : Nat) : incW (p ++ false :: List.replicate k true) = p ++ true :: List.replicate k false := by
  unfold incW
  rw [List.reverse_append, List.reverse_cons, List.reverse_replicate, List.append_assoc, List.singleton_append, incR_ones]
  simp
theorem incW_all (n : Nat) : incW (List.replicate n true) = List.replicate n false := by
  unfold incW
  rw [List.reverse_replicate]
  have : ∀ n, incR (List.replicate n true) = List.replicate n false := by
    intro n
    induction n with
    | zero => rfl
    | succ n ih => rw [List.replicate_succ, List.replicate_succ, incR, ih]
  rw [this, List.reverse_replicate]
end Go.Proofs.YtlaionhlejmjdaaDoor
