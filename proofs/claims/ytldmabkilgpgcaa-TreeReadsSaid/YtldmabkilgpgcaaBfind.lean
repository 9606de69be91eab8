/-
  LAYER 1: the place of a one, by how many stand below it.
  CONDITIONS: as each says.
-/
import Derived.Test.YtldmabkilgpgcaaBtz
import Derived.StillTailTactics
namespace Go.Proofs.Ytldmabkilgpgcaa
open Go.RowKit

theorem clrN_zero (l : List Bool) : clrN 0 l = l := by cases l <;> rfl
theorem wordL_sel {bs : List Bool} {wd k i : Nat} (h : IsSel (wordL bs wd) k i) : IsSel bs (k + cntI bs (64 * wd)) (64 * wd + i) := (IsSel.take h).drop
theorem wordL_count (bs : List Bool) (k : Nat) : popN 64 (bitN (wordL bs k)) = (wordL bs k).count true := popN_bitN 64 _ (wordL_len bs k)

end Go.Proofs.Ytldmabkilgpgcaa
