/-
  ossuarykit.Pick: a number in 0 .. n-1 of any integer.
  CONDITIONS: the second number is at most 2^40.
-/
import Derived.Test.YtldmabkilgpgcaaKit
namespace Go.Proofs.Ytldmabkilgpgcaa

/-- What Pick gives. -/
def pickI (x n : Int) : Int := if n < 1 then 0 else x % n
theorem pickI_bound {x n : Int} (h : 1 ≤ n) : 0 ≤ pickI x n ∧ pickI x n < n := by
  unfold pickI
  rw [if_neg (by omega)]
  exact ⟨Int.emod_nonneg _ (by omega), Int.emod_lt_of_pos _ (by omega)⟩

theorem pick_any (x n : Int) (w : World) (hn : n ≤ 1099511627776) :
    Calls Try.prog 28 #[.int .i64 x, .int .i64 n] w fun e w' => e = .returned (.int .i64 (pickI x n)) ∧ w = w' := by
  go_enter Try.func28, Try.ntmps28
  by_cases h1 : n < 1
  · go_wp2
    go_ret
    have he : pickI x n = 0 := by unfold pickI; rw [if_pos h1]
    exact ⟨congrArg (fun z => Ending.returned (.int .i64 z)) he.symm, rfl⟩
  · have hz : n ≠ 0 := by omega
    obtain ⟨r, hr⟩ : ∃ r, x.tmod n = r := ⟨_, rfl⟩
    have hb : -n < r ∧ r < n := by
      rw [← hr]
      exact ⟨Int.lt_tmod_of_pos _ (by omega), Int.tmod_lt_of_pos _ (by omega)⟩
    have he : pickI x n = if r < 0 then r + n else r := by
      unfold pickI
      rw [if_neg h1]
      have h2 := Int.tmod_add_mul_tdiv x n
      have h3 := Int.emod_nonneg x hz
      have h4 := Int.emod_lt_of_pos x (show 0 < n by omega)
      rw [hr] at h2
      have h5 : x % n = r % n := by rw [← h2]; simp
      rw [h5]
      by_cases h0 : r < 0
      · rw [if_pos h0, ← Int.add_emod_right, Int.emod_eq_of_lt (by omega) (by omega)]
      · rw [if_neg h0, Int.emod_eq_of_lt (by omega) (by omega)]
    by_cases h0 : r < 0
    · rw [if_pos h0] at he
      go_wp2
      go_ret
      exact ⟨rfl, rfl⟩
    · rw [if_neg h0] at he
      go_wp2
      go_ret
      exact ⟨rfl, rfl⟩
end Go.Proofs.Ytldmabkilgpgcaa
