/-
  BitsRanks: the walk.
  CONDITIONS: none.
-/
import Derived.Test.YtddmioaeehgkbaaDoorBq
namespace Go.Proofs.YtddmioaeehgkbaaDoor
open Go.RowKit

theorem rankI_in {bs : List Bool} {k : Nat} (h : k ≤ bs.length) : rankI bs (k : Int) = cntI bs k := by
  unfold rankI
  rw [show (min (max (k : Int) 0) (bs.length : Int)).toNat = k by omega]
theorem getB_in {bs : List Bool} {k : Nat} {b : Bool} (h : bs[k]? = some b) : getB bs (k : Int) = b := by
  unfold getB
  rw [if_neg (by omega), Int.toNat_natCast, List.getD_eq_getElem?_getD, h]
  rfl
theorem cntI_succ {bs : List Bool} {k : Nat} {b : Bool} (h : bs[k]? = some b) : cntI bs (k + 1) = cntI bs k + b.toNat := by
  unfold cntI
  rw [take_succ_of h, List.count_append]
  cases b <;> rfl

end Go.Proofs.YtddmioaeehgkbaaDoor
