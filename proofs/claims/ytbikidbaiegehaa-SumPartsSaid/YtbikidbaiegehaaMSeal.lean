/-
  PLAIN MATHEMATICS OF SumSeals: what is sealed is opened; bits turned that stand within 32 in a row are always told.
  CONDITIONS: none beyond each lemma's own.
-/
import Derived.Test.YtbikidbaiegehaaMSum
namespace Go.Proofs.Ytbikidbaiegehaa

/-- Bit k of a row of bytes. -/
def bitAt (l : List Int) (k : Nat) : Nat := (l.getD (k / 8) 0).toNat / 2 ^ (k % 8) % 2
/-- The register, fed with bits. -/
def feedF (f : Nat → Nat) : Nat → Nat → Nat
  | 0, r => r
  | m + 1, r => stp (feedF f m r ^^^ f m)

theorem feedF_xor (f g : Nat → Nat) (m a b : Nat) : feedF (fun k => f k ^^^ g k) m (a ^^^ b) = feedF f m a ^^^ feedF g m b := by
  induction m with
  | zero => rfl
  | succ m ih =>
    simp only [feedF]
    rw [ih, ← stp_xor]
    congr 1
    rw [Nat.xor_assoc, Nat.xor_assoc]
    congr 1
    rw [← Nat.xor_assoc, Nat.xor_comm (feedF g m b), Nat.xor_assoc]
theorem feedF_congr {f g : Nat → Nat} {m : Nat} (r : Nat) (h : ∀ k, k < m → f k = g k) : feedF f m r = feedF g m r := by
  induction m with
  | zero => rfl
  | succ m ih => simp only [feedF]; rw [ih (fun k hk => h k (by omega)), h m (by omega)]
theorem low_step (c k : Nat) : c % 2 ^ (k + 1) = c % 2 ^ k ^^^ 2 ^ k * (c / 2 ^ k % 2) := by
  have h := low_high (c % 2 ^ (k + 1)) k
  rw [Nat.mod_mod_of_dvd _ (Nat.pow_dvd_pow 2 (Nat.le_succ k))] at h
  rw [h]
  congr 2
  rw [Nat.pow_succ, Nat.mod_mul_right_div_self]
theorem bitAt_append_left {l : List Int} {x : Int} {k : Nat} (h : k < 8 * l.length) : bitAt (l ++ [x]) k = bitAt l k := by
  unfold bitAt
  rw [List.getD_eq_getElem?_getD, List.getD_eq_getElem?_getD, List.getElem?_append_left (by omega)]
theorem bitAt_append_right (l : List Int) (x : Int) (j : Nat) (h : j < 8) : bitAt (l ++ [x]) (8 * l.length + j) = x.toNat / 2 ^ j % 2 := by
  unfold bitAt
  rw [show (8 * l.length + j) / 8 = l.length from by omega, show (8 * l.length + j) % 8 = j from by omega]
  rw [List.getD_eq_getElem?_getD, List.getElem?_append_right (Nat.le_refl _)]
  simp
theorem stpN_top (j w z : Nat) : stpN j (w ^^^ 2 ^ j * z) = stpN j w ^^^ z := by rw [stpN_xor, stpN_shift]
theorem xor_nought {a b : Nat} (h : a ^^^ b = 0) : a = b := by
  have h' := congrArg (· ^^^ b) h
  simpa [Nat.xor_assoc] using h'
theorem feed_byte (f : Nat → Nat) (m r c : Nat) (hc : c < 256) (hf : ∀ j, j < 8 → f (m + j) = c / 2 ^ j % 2) : feedF f (m + 8) r = bstp (feedF f m r) c := by
  have h : ∀ j, j ≤ 8 → feedF f (m + j) r = stpN j (feedF f m r ^^^ c % 2 ^ j) := by
    intro j
    induction j with
    | zero => intro _; simp [stpN, Nat.mod_one]
    | succ j ih =>
      intro hj
      rw [show m + (j + 1) = (m + j) + 1 from by omega]
      simp only [feedF]
      rw [ih (by omega), hf j (by omega), low_step, ← Nat.xor_assoc, stpN_succ', stpN_top]
  rw [h 8 (Nat.le_refl _), Nat.mod_eq_of_lt hc]
  rfl
theorem crc_feed (r : Nat) : ∀ (n : Nat) (l : List Int), l.length = n → (∀ x ∈ l, 0 ≤ x ∧ x ≤ 255) → crcFrom r l = feedF (bitAt l) (8 * l.length) r := by
  intro n
  induction n with
  | zero => intro l hl _; rw [List.eq_nil_of_length_eq_zero hl]; rfl
  | succ n ih =>
    intro l hl hb
    obtain ⟨l', x, rfl⟩ : ∃ l' x, l = l' ++ [x] := by
      rcases List.eq_nil_or_concat l with h | ⟨a, b, h⟩
      · subst h; simp at hl
      · exact ⟨a, b, by simpa using h⟩
    have hl' : l'.length = n := by simpa using hl
    rw [crcFrom_snoc, ih l' hl' (fun y hy => hb y (by simp [hy]))]
    rw [List.length_append, List.length_singleton, Nat.mul_add, Nat.mul_one]
    have hx := hb x (by simp)
    rw [feed_byte (bitAt (l' ++ [x])) (8 * l'.length) r x.toNat (by omega) (fun j hj => bitAt_append_right l' x j hj)]
    congr 1
    exact feedF_congr r (fun k hk => (bitAt_append_left hk).symm)

/-- A pattern of bits, all within 32 in a row, one at least: the register is not nought behind it. -/
theorem burst (f : Nat → Nat) (p M : Nat) (h01 : ∀ k, f k < 2) (hlow : ∀ k, k < p → f k = 0) (hhigh : ∀ k, p + 32 ≤ k → f k = 0) (hone : ∃ k, k < M ∧ f k = 1) : feedF f M 0 ≠ 0 := by
  have h0 : ∀ m, m ≤ p → feedF f m 0 = 0 := by
    intro m
    induction m with
    | zero => intro _; rfl
    | succ m ih => intro hm; simp only [feedF]; rw [ih (by omega), hlow m (by omega)]; rfl
  have hw : ∀ j, j ≤ 32 → ∃ W, W < 2 ^ j ∧ feedF f (p + j) 0 = stpN j W ∧ ((∃ i, i < j ∧ f (p + i) = 1) → W ≠ 0) := by
    intro j
    induction j with
    | zero => intro _; exact ⟨0, by simp, by rw [Nat.add_zero, h0 p (Nat.le_refl _)]; rfl, fun ⟨i, hi, _⟩ => by omega⟩
    | succ j ih =>
      intro hj
      obtain ⟨W, hW, hf, hn⟩ := ih (by omega)
      refine ⟨W ^^^ 2 ^ j * f (p + j), ?_, ?_, ?_⟩
      · have hW' : W < 2 ^ (j + 1) := by rw [Nat.pow_succ]; omega
        refine Nat.xor_lt_two_pow hW' ?_
        have := h01 (p + j)
        rw [Nat.pow_succ]
        have : 2 ^ j * f (p + j) ≤ 2 ^ j * 1 := Nat.mul_le_mul_left _ (by omega)
        have := Nat.two_pow_pos j
        omega
      · rw [show p + (j + 1) = (p + j) + 1 from by omega]
        simp only [feedF]
        rw [hf, stpN_succ', stpN_top]
      · rintro ⟨i, hi, hfi⟩ he
        have h01j := h01 (p + j)
        by_cases hfj : f (p + j) = 1
        · have := congrArg (Nat.testBit · j) he
          simp only [Nat.testBit_xor, hfj, Nat.mul_one, Nat.testBit_two_pow_self, Nat.zero_testBit] at this
          rw [Nat.testBit_lt_two_pow hW] at this
          simp at this
        · have hz : f (p + j) = 0 := by omega
          rw [hz, Nat.mul_zero, Nat.xor_zero] at he
          have hij : i ≠ j := fun e => hfj (e ▸ hfi)
          exact hn ⟨i, by omega, hfi⟩ he
  obtain ⟨k, hkM, hk⟩ := hone
  have hkp : p ≤ k := by
    rcases Nat.lt_or_ge k p with h | h
    · rw [hlow k h] at hk; omega
    · exact h
  have hk32 : k < p + 32 := by
    rcases Nat.lt_or_ge k (p + 32) with h | h
    · exact h
    · rw [hhigh k h] at hk; omega
  by_cases hM : M ≤ p + 32
  · obtain ⟨W, hW, hf, hn⟩ := hw (M - p) (by omega)
    rw [show p + (M - p) = M from by omega] at hf
    rw [hf]
    intro he
    have hlt : W < 4294967296 := Nat.lt_of_lt_of_le hW (by
      have := Nat.pow_le_pow_right (show 0 < 2 by omega) (show M - p ≤ 32 by omega)
      simpa using this)
    exact hn ⟨k - p, by omega, by rw [show p + (k - p) = k from by omega]; exact hk⟩ (stpN_zero _ hlt he)
  · obtain ⟨W, hW, hf, hn⟩ := hw 32 (Nat.le_refl _)
    have hWn := hn ⟨k - p, by omega, by rw [show p + (k - p) = k from by omega]; exact hk⟩
    have hlt : W < 4294967296 := by simpa using hW
    have rest : ∀ m, feedF f (p + 32 + m) 0 = stpN m (stpN 32 W) := by
      generalize stpN 32 W = V at hf ⊢
      intro m
      induction m with
      | zero => rw [Nat.add_zero, hf]; rfl
      | succ m ih =>
        rw [show p + 32 + (m + 1) = (p + 32 + m) + 1 from by omega]
        simp only [feedF]
        rw [ih, hhigh _ (by omega), Nat.xor_zero]
        exact (stpN_succ' m _).symm
    have := rest (M - (p + 32))
    rw [show p + 32 + (M - (p + 32)) = M from by omega] at this
    rw [this]
    intro he
    exact hWn (stpN_zero 32 hlt (stpN_zero _ (stpN_lt 32 hlt) he))

/-- Four bytes of a number, fed. -/
theorem crc_le4 (s v : Nat) (hv : v < 4294967296) : crcFrom s (le4 v) = stpN 32 (s ^^^ v) := by
  have step : ∀ (j n w : Nat), stpN j (w ^^^ 256 * n) = stpN j w ^^^ stpN j (256 * n) := fun j n w => stpN_xor j w _
  have hb : ∀ (s n c : Nat), c < 256 → stpN 8 (s ^^^ (c + 256 * n)) = bstp s c ^^^ n := by
    intro s n c hc
    have h1 : c + 256 * n = c ^^^ 2 ^ 8 * n := by
      have h := low_high (c + 256 * n) 8
      rw [show (c + 256 * n) % 2 ^ 8 = c from by omega, show (c + 256 * n) / 2 ^ 8 = n from by omega] at h
      exact h
    rw [h1, ← Nat.xor_assoc, stpN_xor, stpN_shift]
    rfl
  have e : crcFrom s (le4 v) = bstp (bstp (bstp (bstp s (v % 256)) (v / 256 % 256)) (v / 65536 % 256)) (v / 16777216 % 256) := by
    simp only [crcFrom, le4, List.foldl, Int.toNat_natCast]
  rw [e]
  have h1 := hb s (v / 256) (v % 256) (by omega)
  rw [show v % 256 + 256 * (v / 256) = v from by omega] at h1
  have h2 := hb (bstp s (v % 256)) (v / 65536) (v / 256 % 256) (by omega)
  rw [show v / 256 % 256 + 256 * (v / 65536) = v / 256 from by omega] at h2
  have h3 := hb (bstp (bstp s (v % 256)) (v / 256 % 256)) (v / 16777216) (v / 65536 % 256) (by omega)
  rw [show v / 65536 % 256 + 256 * (v / 16777216) = v / 65536 from by omega] at h3
  have h4 := hb (bstp (bstp (bstp s (v % 256)) (v / 256 % 256)) (v / 65536 % 256)) 0 (v / 16777216 % 256) (by omega)
  rw [show v / 16777216 % 256 + 256 * 0 = v / 16777216 from by omega, Nat.xor_zero] at h4
  rw [show 32 = 8 + 24 from rfl, stpN_add, h1, show 24 = 8 + 16 from rfl, stpN_add, h2, show 16 = 8 + 8 from rfl, stpN_add, h3, h4]
theorem crc_residue {l : List Int} (h : ∀ x ∈ l, 0 ≤ x ∧ x ≤ 255) : crcFrom 4294967295 (sealed l) = stpN 32 4294967295 := by
  rw [sealed, crcFrom_append, crc_le4 _ _ (crc_lt h)]
  unfold crc
  congr 1
  rw [← Nat.xor_assoc, Nat.xor_self, Nat.zero_xor]

/-- THE PLAIN LAW: sealed bytes with bits turned that stand within 32 in a row, one at least, are not sealed bytes. -/
theorem turned_told {s t x y : List Int} (hs : s = sealed x) (ht : t = sealed y) (hx : ∀ z ∈ x, 0 ≤ z ∧ z ≤ 255) (hy : ∀ z ∈ y, 0 ≤ z ∧ z ≤ 255) (hl : t.length = s.length) (p : Nat)
    (hlow : ∀ k, k < p → bitAt t k = bitAt s k) (hhigh : ∀ k, p + 32 ≤ k → bitAt t k = bitAt s k) : ¬ ∃ k, k < 8 * s.length ∧ bitAt t k ≠ bitAt s k := by
  intro hone
  have b01 : ∀ l k, bitAt l k < 2 := fun l k => Nat.mod_lt _ (by omega)
  have e01 : ∀ k, (bitAt t k ^^^ bitAt s k) < 2 := fun k => Nat.xor_lt_two_pow (n := 1) (b01 t k) (b01 s k)
  have key := burst (fun k => bitAt t k ^^^ bitAt s k) p (8 * s.length) e01 (fun k hk => by simp [hlow k hk]) (fun k hk => by simp [hhigh k hk]) (by
    obtain ⟨k, hk, hne⟩ := hone
    refine ⟨k, hk, ?_⟩
    have := e01 k
    have h0 : bitAt t k ^^^ bitAt s k ≠ 0 := fun h => hne (xor_nought h)
    omega)
  have hx1 := feedF_xor (bitAt t) (bitAt s) (8 * s.length) 4294967295 4294967295
  rw [Nat.xor_self] at hx1
  rw [hx1] at key
  have h1 := crc_feed 4294967295 _ s rfl (by rw [hs]; exact sealed_byte hx)
  have h2 := crc_feed 4294967295 _ t rfl (by rw [ht]; exact sealed_byte hy)
  rw [hl] at h2
  rw [← h1, ← h2, hs, ht, crc_residue hx, crc_residue hy, Nat.xor_self] at key
  exact key rfl
theorem bit_test (a i : Nat) : a / 2 ^ i % 2 = (a.testBit i).toNat := by rw [Nat.toNat_testBit]
/-- One bit turned. -/
theorem bitAt_flip {l : List Int} {p a q m : Nat} (hq : q = p / 8) (hm : m = p % 8) (hx : l[q]? = some (a : Int)) :
    (∀ k, k ≠ p → bitAt (l.set q ((a ^^^ 2 ^ m : Nat) : Int)) k = bitAt l k) ∧ bitAt (l.set q ((a ^^^ 2 ^ m : Nat) : Int)) p ≠ bitAt l p := by
  subst hq hm
  have hlt : p / 8 < l.length := (List.getElem?_eq_some_iff.1 hx).1
  have g : ∀ k, k / 8 = p / 8 → bitAt l k = (a.testBit (k % 8)).toNat ∧ bitAt (l.set (p / 8) ((a ^^^ 2 ^ (p % 8) : Nat) : Int)) k = ((a ^^^ 2 ^ (p % 8)).testBit (k % 8)).toNat := by
    intro k hk
    unfold bitAt
    rw [hk, List.getD_eq_getElem?_getD, List.getD_eq_getElem?_getD, hx, List.getElem?_set_self hlt, ← bit_test, ← bit_test]
    exact ⟨rfl, rfl⟩
  constructor
  · intro k hk
    by_cases h : k / 8 = p / 8
    · rw [(g k h).1, (g k h).2, Nat.testBit_xor, Nat.testBit_two_pow_of_ne (by omega)]
      simp
    · unfold bitAt
      rw [List.getD_eq_getElem?_getD, List.getD_eq_getElem?_getD, List.getElem?_set_ne (by omega)]
  · rw [(g p rfl).1, (g p rfl).2, Nat.testBit_xor, Nat.testBit_two_pow_self]
    cases a.testBit (p % 8) <;> simp
end Go.Proofs.Ytbikidbaiegehaa
