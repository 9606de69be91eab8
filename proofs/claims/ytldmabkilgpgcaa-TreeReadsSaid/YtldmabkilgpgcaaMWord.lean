/-
  WORDS IN MEMORY: what a block of words of 64 bits holds, as plain numbers.
  CONDITIONS: none beyond each lemma's own.
-/
import Derived.Test.YtldmabkilgpgcaaMPack
namespace Go.Proofs.Ytldmabkilgpgcaa
open Go.RowKit

/-- Words in memory. -/
def wordsV (ws : List Nat) : List Value := ws.map fun x => .int .u64 ((x : Nat) : Int)
theorem wordsV_get {ws : List Nat} {i x : Nat} (h : ws[i]? = some x) : (wordsV ws)[i]? = some (.int .u64 (x : Int)) := by simp [wordsV, h]

theorem u64_wrap_nat (a : Nat) : IntKind.u64.wrap (a : Int) = ((a % 2 ^ 64 : Nat) : Int) := by
  have : IntKind.u64.wrap (a : Int) = (a : Int) % 18446744073709551616 := by simp [IntKind.wrap, IntKind.signed, IntKind.bits]
  rw [this]
  omega
theorem wordsV_set (ws : List Nat) (q Z : Nat) : (wordsV ws).set q (.int .u64 (Z : Int)) = wordsV (ws.set q Z) := by unfold wordsV; rw [List.map_set]
theorem set_lt {ws : List Nat} {q Z b : Nat} (h : ∀ x ∈ ws, x < b) (hZ : Z < b) : ∀ x ∈ ws.set q Z, x < b := fun x hx => by
  rcases List.mem_or_eq_of_mem_set hx with h1 | h1
  · exact h x h1
  · rw [h1]; exact hZ
theorem u64_wrap_small {a : Nat} (h : a < 2 ^ 64) : IntKind.u64.wrap (a : Int) = (a : Int) := by
  rw [u64_wrap_nat, Nat.mod_eq_of_lt h]
end Go.Proofs.Ytldmabkilgpgcaa
