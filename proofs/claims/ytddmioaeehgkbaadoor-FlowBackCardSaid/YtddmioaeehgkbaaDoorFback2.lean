/-
  LAYER 3: back, whole.
  CONDITIONS: as each says.
-/
import Derived.Test.YtddmioaeehgkbaaDoorFback1
namespace Go.Proofs.YtddmioaeehgkbaaDoor
open Go.RowKit

/-- A deed's bits are read again. -/
theorem back_any (w0 : World) (p q a N m1 m2 c2 c3 : Nat) (what wide : Int) (A2 A3 : Option Addr) (ones : List Bool) (nums : List Int) (bs r : List Bool) (w : World) (ht : Tab64 w0) (h : RB w0 w [] p q N bs a) (hN : bs.length = N) (h2 : Rd w w0.heap.size A2 (ones.map .bool)) (hm1 : ones.length = m1) (h3 : Rd w w0.heap.size A3 (nums.map (.int .i64))) (hm2 : nums.length = m2) (hb1 : m1 ≤ 1000000) (hb2 : m2 ≤ 1000000) (hs : ∀ x ∈ nums, x ≤ 9223372036854775807) (hok : deedOk what wide nums) (hd : bs.drop a = deedB what wide ones nums ++ r) :
    Calls Tryd.prog 39 #[.pointer (some ⟨p, 0, none⟩), .agg #[.int .i64 what, .int .i64 wide, .slice A2 m1 c2, .slice A3 m2 c3]] w fun e w' => e = .returned (.bool true) ∧ RB w0 w' [] p q N bs (a + (deedB what wide ones nums).length) := by
  have hrb := pickI_bound (x := what) (n := 3) (by omega)
  unfold deedOk at hok
  unfold deedB at hd ⊢
  by_cases hp0 : pickI what 3 = 0
  · simp only [if_pos hp0] at hd ⊢
    rw [hm1]
    exact back0_any w0 p q a N m1 m2 c2 c3 what wide A2 A3 ones bs r w h hN h2 hm1 hb1 hp0 hd
  · by_cases hp1 : pickI what 3 = 1
    · simp only [if_neg hp0, if_pos hp1] at hok hd ⊢
      obtain ⟨⟨hw0, hw1⟩, ho⟩ := hok
      obtain ⟨M, rfl⟩ : ∃ M : Nat, wide = (M : Int) := ⟨wide.toNat, by omega⟩
      rw [Int.toNat_natCast] at hd ⊢
      rw [numL_len, hm2]
      exact back1_any w0 p q a N m1 m2 c2 c3 what M A2 A3 nums bs r w h hN h3 hm2 hb2 (by omega) ho hs hp1 hd
    · simp only [if_neg hp0, if_neg hp1] at hok hd ⊢
      exact back2_any w0 p q a N m1 m2 c2 c3 what wide A2 A3 nums bs r w ht h hN h3 hm2 hb2 hok hs (by omega) hd
end Go.Proofs.YtddmioaeehgkbaaDoor
