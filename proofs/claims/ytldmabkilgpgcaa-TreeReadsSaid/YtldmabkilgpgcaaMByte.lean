/-
  PLAIN MATHEMATICS OF LAYER 2, second part: a number's bytes, bit by bit.
  CONDITIONS: none beyond each lemma's own.
-/
import Derived.Test.YtldmabkilgpgcaaMPack
namespace Go.Proofs.Ytldmabkilgpgcaa

/-- One bit more above all others. -/
theorem byte_step {M a b j : Nat} (hM : M < 2 ^ a) (hb : b ≤ 1) : (M + b * 2 ^ a) / 2 ^ (8 * j) % 256 = M / 2 ^ (8 * j) % 256 + (if j = a / 8 then b * 2 ^ (a % 8) else 0) := by
  rcases Nat.lt_trichotomy j (a / 8) with h | h | h
  · rw [if_neg (by omega)]
    have e : 2 ^ a = 2 ^ (8 * j) * (256 * 2 ^ (a - 8 * j - 8)) := by
      rw [show (256 : Nat) = 2 ^ 8 from rfl, ← Nat.pow_add, ← Nat.pow_add]
      exact congrArg (2 ^ ·) (by omega)
    rw [e, Nat.mul_comm b, Nat.mul_assoc, Nat.add_mul_div_left _ _ (Nat.two_pow_pos _), Nat.mul_assoc, Nat.add_mul_mod_self_left, Nat.add_zero]
  · rw [if_pos h]
    have e : 2 ^ a = 2 ^ (8 * j) * 2 ^ (a % 8) := by
      rw [← Nat.pow_add]
      exact congrArg (2 ^ ·) (by omega)
    have h1 : M / 2 ^ (8 * j) < 2 ^ (a % 8) := by rw [Nat.div_lt_iff_lt_mul (Nat.two_pow_pos _), Nat.mul_comm, ← e]; exact hM
    have h2 : 2 ^ (a % 8) ≤ 2 ^ 7 := Nat.pow_le_pow_right (by omega) (by omega)
    have h3 : b * 2 ^ (a % 8) ≤ 1 * 2 ^ (a % 8) := Nat.mul_le_mul_right _ hb
    rw [e, Nat.mul_comm b (2 ^ (8 * j) * 2 ^ (a % 8)), Nat.mul_assoc, Nat.add_mul_div_left _ _ (Nat.two_pow_pos _), Nat.mul_comm (2 ^ (a % 8)) b]
    generalize M / 2 ^ (8 * j) = X at *
    generalize b * 2 ^ (a % 8) = Y at *
    generalize 2 ^ (a % 8) = Z at *
    omega
  · rw [if_neg (by omega), Nat.add_zero]
    have h1 : 2 ^ (a + 1) ≤ 2 ^ (8 * j) := Nat.pow_le_pow_right (by omega) (by omega)
    have h2 : 2 ^ (a + 1) = 2 * 2 ^ a := by rw [Nat.pow_succ, Nat.mul_comm]
    have h3 : b * 2 ^ a ≤ 1 * 2 ^ a := Nat.mul_le_mul_right _ hb
    rw [Nat.div_eq_of_lt (by omega), Nat.div_eq_of_lt (by omega)]
/-- A number below so many bits and one. -/
theorem mod_step (N a : Nat) : N % 2 ^ (a + 1) = N % 2 ^ a + (N / 2 ^ a % 2) * 2 ^ a := by
  rw [Nat.pow_succ, Nat.mod_mul, Nat.mul_comm (2 ^ a)]
end Go.Proofs.Ytldmabkilgpgcaa
