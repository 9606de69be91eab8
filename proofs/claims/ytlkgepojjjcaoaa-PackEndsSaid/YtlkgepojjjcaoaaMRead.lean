/-
  PLAIN MATHEMATICS OF LAYER 2, third part: the numbers of a width that a number holds, bit by bit.
  CONDITIONS: none beyond each lemma's own.
-/
import Derived.Test.YtlkgepojjjcaoaaPrbyt2
namespace Go.Proofs.Ytlkgepojjjcaoaa

/-- One bit more above all others, digit by digit. -/
theorem digit_step {wd M a b j : Nat} (hwd : 1 ≤ wd) (hM : M < 2 ^ a) (hb : b ≤ 1) : (M + b * 2 ^ a) / 2 ^ (wd * j) % 2 ^ wd = M / 2 ^ (wd * j) % 2 ^ wd + (if j = a / wd then b * 2 ^ (a % wd) else 0) := by
  have hdm := Nat.div_add_mod a wd
  have hml := Nat.mod_lt a (show 0 < wd by omega)
  rcases Nat.lt_trichotomy j (a / wd) with h | h | h
  · rw [if_neg (by omega)]
    have h1 : wd * (j + 1) ≤ wd * (a / wd) := Nat.mul_le_mul_left _ h
    rw [Nat.mul_add, Nat.mul_one] at h1
    have e : 2 ^ a = 2 ^ (wd * j) * (2 ^ wd * 2 ^ (a - wd * j - wd)) := by
      rw [← Nat.pow_add, ← Nat.pow_add]
      exact congrArg (2 ^ ·) (by omega)
    rw [e, Nat.mul_comm b, Nat.mul_assoc, Nat.add_mul_div_left _ _ (Nat.two_pow_pos _), Nat.mul_assoc, Nat.add_mul_mod_self_left, Nat.add_zero]
  · rw [if_pos h]
    rw [← h] at hdm
    have e : 2 ^ a = 2 ^ (wd * j) * 2 ^ (a % wd) := by rw [← Nat.pow_add, hdm]
    have h1 : M / 2 ^ (wd * j) < 2 ^ (a % wd) := by rw [Nat.div_lt_iff_lt_mul (Nat.two_pow_pos _), Nat.mul_comm, ← e]; exact hM
    have h2 : 2 ^ (a % wd + 1) ≤ 2 ^ wd := Nat.pow_le_pow_right (by omega) (by omega)
    have h3 : b * 2 ^ (a % wd) ≤ 1 * 2 ^ (a % wd) := Nat.mul_le_mul_right _ hb
    rw [Nat.pow_succ] at h2
    rw [e, Nat.mul_comm b (2 ^ (wd * j) * 2 ^ (a % wd)), Nat.mul_assoc, Nat.add_mul_div_left _ _ (Nat.two_pow_pos _), Nat.mul_comm (2 ^ (a % wd)) b]
    rw [Nat.mod_eq_of_lt (show M / 2 ^ (wd * j) + b * 2 ^ (a % wd) < 2 ^ wd by omega), Nat.mod_eq_of_lt (show M / 2 ^ (wd * j) < 2 ^ wd by omega)]
  · rw [if_neg (by omega), Nat.add_zero]
    have h0 : wd * (a / wd + 1) ≤ wd * j := Nat.mul_le_mul_left _ h
    rw [Nat.mul_add, Nat.mul_one] at h0
    have h1 : 2 ^ (a + 1) ≤ 2 ^ (wd * j) := Nat.pow_le_pow_right (by omega) (by omega)
    have h2 : 2 ^ (a + 1) = 2 * 2 ^ a := by rw [Nat.pow_succ, Nat.mul_comm]
    have h3 : b * 2 ^ a ≤ 1 * 2 ^ a := Nat.mul_le_mul_right _ hb
    rw [Nat.div_eq_of_lt (by omega), Nat.div_eq_of_lt (by omega)]
/-- The numbers of a width that a number holds. -/
def readL (wd n N : Nat) : List Nat := (List.range n).map fun i => N / 2 ^ (wd * i) % 2 ^ wd
theorem readL_len (wd n N : Nat) : (readL wd n N).length = n := by simp [readL]
theorem readL_get {wd n N i : Nat} (h : i < n) : (readL wd n N)[i]? = some (N / 2 ^ (wd * i) % 2 ^ wd) := by simp [readL, h]
theorem readL_succ (wd n N : Nat) : readL wd (n + 1) N = readL wd n N ++ [N / 2 ^ (wd * n) % 2 ^ wd] := by simp [readL, List.range_succ]
theorem readL_lt (wd n N : Nat) : ∀ x ∈ readL wd n N, x < 2 ^ wd := by
  intro x hx
  obtain ⟨i, _, rfl⟩ := List.mem_map.1 hx
  exact Nat.mod_lt _ (Nat.two_pow_pos _)
theorem packN_readL (wd N : Nat) : ∀ n, packN wd (readL wd n N) = N % 2 ^ (wd * n)
  | 0 => by show 0 = N % 2 ^ (wd * 0); rw [Nat.mul_zero, Nat.pow_zero, Nat.mod_one]
  | n + 1 => by
    rw [readL_succ, packN_snoc, packN_readL wd N n, readL_len, Nat.mul_add, Nat.mul_one, Nat.pow_add, Nat.mod_mul, Nat.mul_comm (2 ^ (wd * n))]
theorem readL_pack {wd n N : Nat} (h : N < 2 ^ (wd * n)) : packN wd (readL wd n N) = N := by rw [packN_readL, Nat.mod_eq_of_lt h]
theorem readL_of_pack {wd : Nat} {l : List Nat} (h : ∀ x ∈ l, x < 2 ^ wd) : readL wd l.length (packN wd l) = l := by
  apply List.ext_getElem?
  intro i
  by_cases hi : i < l.length
  · rw [readL_get hi, List.getElem?_eq_getElem hi, packN_get h (List.getElem?_eq_getElem hi)]
  · rw [List.getElem?_eq_none (by rw [readL_len]; omega), List.getElem?_eq_none (by omega)]
/-- The first bit of a number more. -/
theorem readL_new {wd N a : Nat} (hwd : 1 ≤ wd) (ha : a % wd = 0) : readL wd (a / wd) (N % 2 ^ a) ++ [N / 2 ^ a % 2] = readL wd (a / wd + 1) (N % 2 ^ (a + 1)) := by
  have hM : N % 2 ^ a < 2 ^ a := Nat.mod_lt _ (Nat.two_pow_pos _)
  have hb : N / 2 ^ a % 2 ≤ 1 := by omega
  have hdm := Nat.div_add_mod a wd
  rw [ha, Nat.add_zero] at hdm
  rw [readL_succ, mod_step]
  congr 1
  · refine List.map_congr_left fun j hj => ?_
    have := List.mem_range.1 hj
    rw [digit_step hwd hM hb, if_neg (by omega), Nat.add_zero]
  · rw [digit_step hwd hM hb, if_pos rfl, ha, Nat.pow_zero, Nat.mul_one, hdm, Nat.div_eq_of_lt hM, Nat.zero_mod, Nat.zero_add]
/-- A bit of a number that is begun. -/
theorem readL_old {wd N a x : Nat} (hwd : 1 ≤ wd) (hx : (readL wd (a / wd + 1) (N % 2 ^ a))[a / wd]? = some x) : (readL wd (a / wd + 1) (N % 2 ^ a)).set (a / wd) (x + (N / 2 ^ a % 2) * 2 ^ (a % wd)) = readL wd (a / wd + 1) (N % 2 ^ (a + 1)) := by
  have hM : N % 2 ^ a < 2 ^ a := Nat.mod_lt _ (Nat.two_pow_pos _)
  have hb : N / 2 ^ a % 2 ≤ 1 := by omega
  rw [readL_get (by omega)] at hx
  injection hx with hx
  apply List.ext_getElem?
  intro j
  rw [List.getElem?_set, readL_len]
  by_cases hj : a / wd = j
  · subst hj
    rw [if_pos rfl, if_pos (by omega), readL_get (by omega), mod_step, digit_step hwd hM hb, if_pos rfl, hx]
  · rw [if_neg hj]
    by_cases hjm : j < a / wd + 1
    · rw [readL_get hjm, readL_get hjm, mod_step, digit_step hwd hM hb, if_neg (fun e => hj e.symm), Nat.add_zero]
    · rw [List.getElem?_eq_none (by rw [readL_len]; omega), List.getElem?_eq_none (by rw [readL_len]; omega)]
theorem readL_old_lt {wd N a x : Nat} (hx : (readL wd (a / wd + 1) (N % 2 ^ a))[a / wd]? = some x) : x < 2 ^ (a % wd) := by
  rw [readL_get (by omega)] at hx
  injection hx with hx
  subst hx
  refine Nat.lt_of_le_of_lt (Nat.mod_le _ _) ?_
  rw [Nat.div_lt_iff_lt_mul (Nat.two_pow_pos _), ← Nat.pow_add, Nat.add_comm, Nat.div_add_mod]
  exact Nat.mod_lt _ (Nat.two_pow_pos _)
end Go.Proofs.Ytlkgepojjjcaoaa
