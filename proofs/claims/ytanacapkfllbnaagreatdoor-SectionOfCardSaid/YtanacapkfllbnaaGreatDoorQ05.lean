/-
  HOW THE ARGUMENTS OF A STATEMENT ARE OPENED: a slice of numbers, a slice of slices of numbers, with the form's own reach as a bound on each length.
  A SLICE OF WHATEVER ELEMENTS OPENED, element by element; a struct's fields.
  CONDITIONS: as each lemma says.
-/
import Derived.Test.YtanacapkfllbnaaGreatDoorQ00
import Derived.ProofKit
import Derived.OpenShut
import Derived.SizedLaws
import Derived.Deep.Matrix
namespace Go.Proofs.YtanacapkfllbnaaGreatDoor
open Go.ChangeShapes Go.WideShapes Go.ChangeAt Go.RowKit Go.Deep

theorem weights_all_mem {H : Type} {P : Program} {e : TypeId} : ∀ {l : List (DataW H)} {i : Nat} {d : DataW H}, l[i]? = some d → ∀ n ∈ d.weights P e, n ∈ DataW.weightsAll P e l
  | d0 :: l, 0, d, hd, n, hn => by
    simp at hd
    subst hd; simp only [DataW.weightsAll, List.mem_append]
    exact .inl hn
  | d0 :: l, i + 1, d, hd, n, hn => by
    simp only [DataW.weightsAll, List.mem_append]
    exact .inr (weights_all_mem (by simpa using hd) n hn)
  | [], _, _, hd, _, _ => by simp at hd

section
variable {H : Type} {enc : TypeId × Value → H} {P : Program} {W : World}
theorem block_of_cell {A : Addr} {i : Nat} {v : Value} (h : W.cell? (A.add i) = some v) : A.block < W.heap.size := by
  have := World.block_lt_of_cell? W _ h
  rwa [addr_add_block] at this

end
end Go.Proofs.YtanacapkfllbnaaGreatDoor
namespace Go.Proofs.YtanacapkfllbnaaGreatDoor
open Go.ChangeShapes Go.WideShapes Go.ChangeAt Go.RowKit Go.Deep

section
variable {H : Type} {enc : TypeId × Value → H} {P : Program} {W : World}
end
theorem int_wf_ {x : Int} (h : (Lit.int .i64 x).wf = true) : -9223372036854775808 ≤ x ∧ x ≤ 9223372036854775807 := by
  simpa [Lit.wf, IntKind.min, IntKind.max, IntKind.signed, IntKind.bits] using h
end Go.Proofs.YtanacapkfllbnaaGreatDoor
