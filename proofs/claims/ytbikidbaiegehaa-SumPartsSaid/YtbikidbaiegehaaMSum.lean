/-
  PLAIN MATHEMATICS OF THE SUM OF BYTES (a cyclic check of 32 bits), with no program in sight: one bit's step, four bits by a table, a byte; what is linear in it; and that bits turned within 32 in a row are always told.
  CONDITIONS: none beyond each lemma's own.
-/
namespace Go.Proofs.Ytbikidbaiegehaa

def poly : Nat := 3988292384
/-- One bit's step. -/
def stp (r : Nat) : Nat := (r / 2) ^^^ (if r % 2 = 1 then poly else 0)
def stpN : Nat → Nat → Nat
  | 0, r => r
  | n + 1, r => stpN n (stp r)

theorem stpN_succ' (n r : Nat) : stpN (n + 1) r = stp (stpN n r) := by
  induction n generalizing r with
  | zero => rfl
  | succ n ih => rw [stpN, ih]; rfl
theorem stpN_add (m n r : Nat) : stpN (m + n) r = stpN n (stpN m r) := by
  induction m generalizing r with
  | zero => simp [stpN]
  | succ m ih => rw [show m + 1 + n = (m + n) + 1 from by omega, stpN, ih]; rfl

theorem xor_div2 (a b : Nat) : (a ^^^ b) / 2 = a / 2 ^^^ b / 2 := by
  apply Nat.eq_of_testBit_eq
  intro i
  simp [Nat.testBit_div_two, Nat.testBit_xor]
theorem xor_mod2 (a b : Nat) : (a ^^^ b) % 2 = (a % 2 + b % 2) % 2 := by
  have h := Nat.testBit_xor a b 0
  simp only [Nat.testBit_zero] at h
  rcases Nat.mod_two_eq_zero_or_one a with ha | ha <;> rcases Nat.mod_two_eq_zero_or_one b with hb | hb <;>
    rcases Nat.mod_two_eq_zero_or_one (a ^^^ b) with hc | hc <;> simp_all

theorem stp_xor (a b : Nat) : stp (a ^^^ b) = stp a ^^^ stp b := by
  unfold stp
  rw [xor_div2, xor_mod2]
  apply Nat.eq_of_testBit_eq
  intro i
  rcases Nat.mod_two_eq_zero_or_one a with ha | ha <;> rcases Nat.mod_two_eq_zero_or_one b with hb | hb <;>
    simp [ha, hb, Nat.testBit_xor] <;> cases (a / 2).testBit i <;> cases (b / 2).testBit i <;> cases poly.testBit i <;> rfl
theorem stpN_xor (n a b : Nat) : stpN n (a ^^^ b) = stpN n a ^^^ stpN n b := by
  induction n generalizing a b with
  | zero => rfl
  | succ n ih => rw [stpN, stp_xor, ih]; rfl
theorem stp_double (y : Nat) : stp (2 * y) = y := by
  unfold stp
  rw [if_neg (by omega), Nat.xor_zero]
  omega
theorem stpN_shift (n y : Nat) : stpN n (2 ^ n * y) = y := by
  induction n with
  | zero => simp [stpN]
  | succ n ih => rw [stpN, show 2 ^ (n + 1) * y = 2 * (2 ^ n * y) from by rw [Nat.pow_succ, Nat.mul_comm (2 ^ n) 2, Nat.mul_assoc], stp_double, ih]
theorem stp_lt {r : Nat} (h : r < 4294967296) : stp r < 4294967296 := by
  unfold stp
  have h1 : r / 2 < 2 ^ 32 := by omega
  split
  · exact Nat.xor_lt_two_pow h1 (by decide)
  · rw [Nat.xor_zero]; omega
theorem stpN_lt (n : Nat) {r : Nat} (h : r < 4294967296) : stpN n r < 4294967296 := by
  induction n generalizing r with
  | zero => exact h
  | succ n ih => exact ih (stp_lt h)
theorem stp_zero {r : Nat} (h : r < 4294967296) (h0 : stp r = 0) : r = 0 := by
  unfold stp at h0
  split at h0
  · have : r / 2 = poly := by
      have := congrArg (· ^^^ poly) h0
      simpa [Nat.xor_assoc] using this
    unfold poly at this
    omega
  · rw [Nat.xor_zero] at h0
    omega
theorem stpN_zero (n : Nat) {r : Nat} (h : r < 4294967296) (h0 : stpN n r = 0) : r = 0 := by
  induction n generalizing r with
  | zero => exact h0
  | succ n ih => exact stp_zero h (ih (stp_lt h) h0)
theorem stpN_of_zero (n : Nat) : stpN n 0 = 0 := by
  induction n with
  | zero => rfl
  | succ n ih => rw [stpN, show stp 0 = 0 from rfl, ih]

/-- r parted into its low bits and the others. -/
theorem low_high (r n : Nat) : r = (r % 2 ^ n) ^^^ (2 ^ n * (r / 2 ^ n)) := by
  apply Nat.eq_of_testBit_eq
  intro i
  rw [Nat.testBit_xor, Nat.testBit_mod_two_pow, Nat.mul_comm, ← Nat.shiftLeft_eq, Nat.testBit_shiftLeft, Nat.testBit_div_two_pow]
  by_cases h : i < n
  · simp [h, Nat.not_le.2 h]
  · simp [h, Nat.not_lt.1 h]
/-- Four bits, by what the low ones make. -/
theorem stp4_table (r : Nat) : stpN 4 r = (r / 16) ^^^ stpN 4 (r % 16) := by
  conv => lhs; rw [low_high r 4]
  rw [stpN_xor, stpN_shift, Nat.xor_comm]

/-- A byte's step. -/
def bstp (r c : Nat) : Nat := stpN 8 (r ^^^ c)
theorem bstp_lt {r c : Nat} (h : r < 4294967296) (hc : c < 256) : bstp r c < 4294967296 :=
  stpN_lt 8 (Nat.xor_lt_two_pow (n := 32) h (by omega))
def crcFrom (r : Nat) (l : List Int) : Nat := l.foldl (fun r x => bstp r x.toNat) r
theorem crcFrom_nil (r : Nat) : crcFrom r [] = r := rfl
theorem crcFrom_append (r : Nat) (a b : List Int) : crcFrom r (a ++ b) = crcFrom (crcFrom r a) b := List.foldl_append
theorem crcFrom_snoc (r : Nat) (a : List Int) (x : Int) : crcFrom r (a ++ [x]) = bstp (crcFrom r a) x.toNat := by rw [crcFrom_append]; rfl
theorem crcFrom_lt {r : Nat} (h : r < 4294967296) : ∀ {l : List Int}, (∀ x ∈ l, 0 ≤ x ∧ x ≤ 255) → crcFrom r l < 4294967296
  | [], _ => h
  | x :: l, hl => crcFrom_lt (bstp_lt h (by have := hl x (by simp); omega)) (fun y hy => hl y (by simp [hy]))
/-- The sum of bytes. -/
def crc (l : List Int) : Nat := crcFrom 4294967295 l ^^^ 4294967295
theorem crc_lt {l : List Int} (h : ∀ x ∈ l, 0 ≤ x ∧ x ≤ 255) : crc l < 4294967296 :=
  Nat.xor_lt_two_pow (n := 32) (crcFrom_lt (by omega) h) (by omega)
/-- The bytes of a number, the lowest first. -/
def le4 (n : Nat) : List Int := [((n % 256 : Nat) : Int), ((n / 256 % 256 : Nat) : Int), ((n / 65536 % 256 : Nat) : Int), ((n / 16777216 % 256 : Nat) : Int)]
theorem le4_length (n : Nat) : (le4 n).length = 4 := rfl
theorem le4_byte (n : Nat) : ∀ x ∈ le4 n, 0 ≤ x ∧ x ≤ 255 := by
  intro x hx
  simp only [le4, List.mem_cons, List.not_mem_nil, or_false] at hx
  rcases hx with rfl | rfl | rfl | rfl <;> omega
def sealed (l : List Int) : List Int := l ++ le4 (crc l)
theorem sealed_length (l : List Int) : (sealed l).length = l.length + 4 := by simp [sealed, le4]
theorem sealed_byte {l : List Int} (h : ∀ x ∈ l, 0 ≤ x ∧ x ≤ 255) : ∀ x ∈ sealed l, 0 ≤ x ∧ x ≤ 255 := by
  intro x hx
  simp only [sealed, List.mem_append] at hx
  exact hx.elim (h x) (le4_byte _ x)
end Go.Proofs.Ytbikidbaiegehaa
