/-
  PLAIN MATHEMATICS OF LAYER 2: words as one number; digits put, digits got.
  CONDITIONS: none beyond each lemma's own.
-/
import Derived.Test.YtldmabkilgpgcaaBase
namespace Go.Proofs.Ytldmabkilgpgcaa

def num : List Nat → Nat
  | [] => 0
  | w :: ws => w + 2 ^ 64 * num ws
theorem num_app : ∀ (a b : List Nat), num (a ++ b) = num a + 2 ^ (64 * a.length) * num b
  | [], b => by show num b = 0 + 2 ^ 0 * num b; omega
  | w :: a, b => by
    show w + 2 ^ 64 * num (a ++ b) = w + 2 ^ 64 * num a + 2 ^ (64 * (a.length + 1)) * num b
    rw [num_app, Nat.mul_add, ← Nat.mul_assoc, ← Nat.pow_add, show 64 + 64 * a.length = 64 * (a.length + 1) from by omega]
    omega
theorem num_lt : ∀ {ws : List Nat}, (∀ x ∈ ws, x < 2 ^ 64) → num ws < 2 ^ (64 * ws.length)
  | [], _ => by show 0 < 2 ^ 0; decide
  | w :: ws, h => by
    have h1 := num_lt (ws := ws) (fun x hx => h x (by simp [hx]))
    have h2 := h w (by simp)
    show w + 2 ^ 64 * num ws < 2 ^ (64 * (ws.length + 1))
    rw [show 64 * (ws.length + 1) = 64 + 64 * ws.length from by omega, Nat.pow_add]
    have h3 : 2 ^ 64 * (num ws + 1) ≤ 2 ^ 64 * 2 ^ (64 * ws.length) := Nat.mul_le_mul_left _ h1
    rw [Nat.mul_add, Nat.mul_one] at h3
    omega
/-- A word, what is below it, what is above it. -/
theorem num_at {ws : List Nat} {q x : Nat} (h : ws[q]? = some x) : num ws = num (ws.take q) + 2 ^ (64 * q) * (x + 2 ^ 64 * num (ws.drop (q + 1))) := by
  obtain ⟨hq, rfl⟩ := List.getElem?_eq_some_iff.1 h
  have e : num ws = num (ws.take q ++ ws.drop q) := by rw [List.take_append_drop]
  rw [e, num_app, List.drop_eq_getElem_cons hq]
  have hl : (ws.take q).length = q := by rw [List.length_take]; omega
  rw [hl]
  rfl
theorem num_get {ws : List Nat} {q r wd x : Nat} (hw : ∀ x ∈ ws, x < 2 ^ 64) (h : ws[q]? = some x) (hov : r + wd ≤ 64) : num ws / 2 ^ (64 * q + r) % 2 ^ wd = x / 2 ^ r % 2 ^ wd := by
  have hlo := num_lt (ws := ws.take q) (fun x hx => hw x (List.mem_of_mem_take hx))
  have hl : (ws.take q).length = q := by rw [List.length_take]; have := (List.getElem?_eq_some_iff.1 h).1; omega
  rw [hl] at hlo
  rw [num_at h, Nat.pow_add, ← Nat.div_div_eq_div_mul, Nat.add_mul_div_left _ _ (Nat.two_pow_pos _), Nat.div_eq_of_lt hlo, Nat.zero_add]
  rw [show 2 ^ 64 * num (ws.drop (q + 1)) = 2 ^ r * (2 ^ wd * (2 ^ (64 - r - wd) * num (ws.drop (q + 1)))) from by
    rw [← Nat.mul_assoc, ← Nat.mul_assoc, ← Nat.pow_add, ← Nat.pow_add, show r + wd + (64 - r - wd) = 64 from by omega]]
  rw [Nat.add_mul_div_left _ _ (Nat.two_pow_pos _), Nat.add_mul_mod_self_left]
theorem num_get2 {ws : List Nat} {q r wd x y s : Nat} (hw : ∀ x ∈ ws, x < 2 ^ 64) (h : ws[q]? = some x) (h2 : ws[q + 1]? = some y) (hs : r + s = 64) (hwd : wd ≤ 64) :
    num ws / 2 ^ (64 * q + r) % 2 ^ wd = (x / 2 ^ r ||| (y * 2 ^ s % 2 ^ 64)) % 2 ^ wd := by
  have hlo := num_lt (ws := ws.take q) (fun x hx => hw x (List.mem_of_mem_take hx))
  have hl : (ws.take q).length = q := by rw [List.length_take]; have := (List.getElem?_eq_some_iff.1 h).1; omega
  rw [hl] at hlo
  have hxb := hw x (List.mem_of_getElem? h)
  have e64 : (2 : Nat) ^ 64 = 2 ^ r * 2 ^ s := by rw [← Nat.pow_add, hs]
  have e64' : (2 : Nat) ^ 64 = 2 ^ s * 2 ^ r := by rw [← Nat.pow_add, Nat.add_comm, hs]
  have e64w : (2 : Nat) ^ 64 = 2 ^ wd * 2 ^ (64 - wd) := by rw [← Nat.pow_add]; congr 1; omega
  have hx2 : x / 2 ^ r < 2 ^ s := by rw [Nat.div_lt_iff_lt_mul (Nat.two_pow_pos _), Nat.mul_comm, ← e64]; exact hxb
  have hhi : num (ws.drop (q + 1)) = y + 2 ^ 64 * num (ws.drop (q + 2)) := by
    obtain ⟨hq, rfl⟩ := List.getElem?_eq_some_iff.1 h2
    rw [List.drop_eq_getElem_cons hq]
    rfl
  rw [num_at h, Nat.pow_add, ← Nat.div_div_eq_div_mul, Nat.add_mul_div_left _ _ (Nat.two_pow_pos _), Nat.div_eq_of_lt hlo, Nat.zero_add]
  rw [hhi]
  obtain ⟨H, hH⟩ : ∃ H, H = num (ws.drop (q + 2)) := ⟨_, rfl⟩
  rw [← hH]
  have a1 : 2 ^ 64 * (y + 2 ^ 64 * H) = 2 ^ r * (2 ^ s * (y + 2 ^ 64 * H)) := by rw [← Nat.mul_assoc, ← e64]
  rw [a1, Nat.add_mul_div_left _ _ (Nat.two_pow_pos _)]
  have a2 : y * 2 ^ s % 2 ^ 64 = 2 ^ s * (y % 2 ^ r) := by rw [e64', Nat.mul_comm y, Nat.mul_mod_mul_left]
  rw [a2, Nat.or_comm, ← Nat.two_pow_add_eq_or_of_lt hx2]
  have a3 : x / 2 ^ r + 2 ^ s * (y + 2 ^ 64 * H) = 2 ^ s * (y % 2 ^ r) + x / 2 ^ r + 2 ^ wd * (2 ^ (64 - wd) * (y / 2 ^ r + 2 ^ s * H)) := by
    have b1 : y = 2 ^ r * (y / 2 ^ r) + y % 2 ^ r := (Nat.div_add_mod y (2 ^ r)).symm
    have b2 : 2 ^ s * (y + 2 ^ 64 * H) = 2 ^ s * (y % 2 ^ r) + 2 ^ 64 * (y / 2 ^ r + 2 ^ s * H) := by
      have c1 : 2 ^ s * y = 2 ^ 64 * (y / 2 ^ r) + 2 ^ s * (y % 2 ^ r) := by
        have : 2 ^ s * y = 2 ^ s * (2 ^ r * (y / 2 ^ r) + y % 2 ^ r) := by rw [← b1]
        rw [this, Nat.mul_add, ← Nat.mul_assoc, ← e64']
      have c2 : 2 ^ s * (2 ^ 64 * H) = 2 ^ 64 * (2 ^ s * H) := by rw [← Nat.mul_assoc, Nat.mul_comm (2 ^ s), Nat.mul_assoc]
      rw [Nat.mul_add, c1, c2, Nat.mul_add]
      omega
    rw [b2, ← Nat.mul_assoc (2 ^ wd), ← e64w]
    omega
  rw [a3, Nat.add_mul_mod_self_left]
/-- A word set. -/
theorem num_set {ws : List Nat} {q x : Nat} (h : ws[q]? = some x) (y : Nat) : num (ws.set q y) + 2 ^ (64 * q) * x = num ws + 2 ^ (64 * q) * y := by
  obtain ⟨hq, hx⟩ := List.getElem?_eq_some_iff.1 h
  have h' : (ws.set q y)[q]? = some y := by rw [List.getElem?_set, if_pos rfl, if_pos hq]
  rw [num_at h', num_at h]
  have e1 : (ws.set q y).take q = ws.take q := by
    rw [List.set_eq_take_append_cons_drop, if_pos hq, List.take_append_of_le_length (by rw [List.length_take]; omega), List.take_take, Nat.min_self]
  have e2 : (ws.set q y).drop (q + 1) = ws.drop (q + 1) := by
    have hl : (ws.take q).length = q := by rw [List.length_take]; omega
    rw [List.set_eq_take_append_cons_drop, if_pos hq, List.drop_append, List.drop_of_length_le (by omega), hl, show q + 1 - q = 1 from by omega]
    rfl
  rw [e1, e2, Nat.mul_add, Nat.mul_add]
  omega
theorem num_word_le {ws : List Nat} {q x : Nat} (h : ws[q]? = some x) : 2 ^ (64 * q) * x ≤ num ws := by
  rw [num_at h, Nat.mul_add]
  omega
/-- Digits put where there are only noughts: within a word. -/
theorem num_put1 {ws : List Nat} {q r n x : Nat} (h : ws[q]? = some x) (hz : num ws < 2 ^ (64 * q + r)) : num (ws.set q (x ||| n * 2 ^ r)) = num ws + n * 2 ^ (64 * q + r) := by
  have hx : x < 2 ^ r := by
    have h1 := num_word_le h
    rw [Nat.pow_add] at hz
    exact Nat.lt_of_mul_lt_mul_left (Nat.lt_of_le_of_lt h1 hz)
  have e := num_set h (x ||| n * 2 ^ r)
  rw [Nat.mul_comm n, Nat.or_comm, ← Nat.two_pow_add_eq_or_of_lt hx, Nat.mul_add] at e
  rw [Nat.mul_comm n (2 ^ r), Nat.or_comm, ← Nat.two_pow_add_eq_or_of_lt hx]
  have e2 : 2 ^ (64 * q) * (2 ^ r * n) = n * 2 ^ (64 * q + r) := by rw [← Nat.mul_assoc, ← Nat.pow_add, Nat.mul_comm]
  omega
/-- Over two words. -/
theorem num_put2 {ws : List Nat} {q r s n x y : Nat} (h : ws[q]? = some x) (h2 : ws[q + 1]? = some y) (hs : r + s = 64) (hz : num ws < 2 ^ (64 * q + r)) :
    y = 0 ∧ num ((ws.set q (x ||| n * 2 ^ r % 2 ^ 64)).set (q + 1) (y ||| n / 2 ^ s)) = num ws + n * 2 ^ (64 * q + r) := by
  have hx : x < 2 ^ r := by
    have h1 := num_word_le h
    rw [Nat.pow_add] at hz
    exact Nat.lt_of_mul_lt_mul_left (Nat.lt_of_le_of_lt h1 hz)
  have hy : y = 0 := by
    have h1 := num_word_le h2
    rcases Nat.eq_zero_or_pos y with h0 | h0
    · exact h0
    · have h3 : 2 ^ (64 * (q + 1)) * 1 ≤ 2 ^ (64 * (q + 1)) * y := Nat.mul_le_mul_left _ h0
      have h4 : 2 ^ (64 * q + r) ≤ 2 ^ (64 * (q + 1)) := Nat.pow_le_pow_right (by omega) (by omega)
      omega
  subst hy
  refine ⟨rfl, ?_⟩
  have e64' : (2 : Nat) ^ 64 = 2 ^ r * 2 ^ s := by rw [← Nat.pow_add, hs]
  have a2 : n * 2 ^ r % 2 ^ 64 = 2 ^ r * (n % 2 ^ s) := by rw [e64', Nat.mul_comm n, Nat.mul_mod_mul_left]
  have e := num_set h (x ||| n * 2 ^ r % 2 ^ 64)
  rw [a2, Nat.or_comm, ← Nat.two_pow_add_eq_or_of_lt hx] at e
  have h2' : (ws.set q (x ||| n * 2 ^ r % 2 ^ 64))[q + 1]? = some 0 := by rw [List.getElem?_set, if_neg (by omega)]; exact h2
  have e3 := num_set h2' (0 ||| n / 2 ^ s)
  rw [Nat.mul_zero, Nat.add_zero, Nat.zero_or] at e3
  rw [Nat.zero_or, e3, a2, Nat.or_comm, ← Nat.two_pow_add_eq_or_of_lt hx]
  have e4 : n * 2 ^ (64 * q + r) = 2 ^ (64 * q) * (2 ^ r * (n % 2 ^ s)) + 2 ^ (64 * (q + 1)) * (n / 2 ^ s) := by
    have b1 : n = 2 ^ s * (n / 2 ^ s) + n % 2 ^ s := (Nat.div_add_mod n (2 ^ s)).symm
    have t1 : 2 ^ (64 * q + r) = 2 ^ (64 * q) * 2 ^ r := Nat.pow_add _ _ _
    have t2 : 2 ^ s * (2 ^ (64 * q) * 2 ^ r) = 2 ^ (64 * (q + 1)) := by
      rw [← Nat.pow_add, ← Nat.pow_add]
      exact congrArg (2 ^ ·) (by omega)
    rw [t1]
    clear e e3 h h2 h2' hz hx a2 e64'
    generalize n / 2 ^ s = Bq at *
    generalize n % 2 ^ s = A at *
    generalize 2 ^ (64 * (q + 1)) = Z at *
    generalize 2 ^ (64 * q) = P at *
    generalize 2 ^ r = R at *
    generalize 2 ^ s = T at *
    subst b1
    rw [← t2, Nat.add_mul, Nat.add_comm, Nat.mul_comm A, Nat.mul_assoc P R A, Nat.mul_comm T Bq, Nat.mul_assoc Bq T, Nat.mul_comm Bq]
  rw [Nat.mul_add] at e
  rw [e4]
  clear e4 e64' a2 h2 h2' h hz hx e3
  generalize 2 ^ (64 * q) * (2 ^ r * (n % 2 ^ s)) = U at *
  generalize 2 ^ (64 * (q + 1)) * (n / 2 ^ s) = V at *
  generalize 2 ^ (64 * q) * x = X at *
  omega
end Go.Proofs.Ytldmabkilgpgcaa
