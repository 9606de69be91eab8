/-
  PLAIN MATHEMATICS OF LAYER 1: bits as one number; ones set, struck, counted, found; the sum of a word's ones, eight bytes at once.
  CONDITIONS: none beyond each lemma's own.
-/
import Derived.Test.YtldmabkilgpgcaaBase
namespace Go.Proofs.Ytldmabkilgpgcaa

theorem and_bit (a c b d : Nat) (hb : b ≤ 1) (hd : d ≤ 1) : (2 * a + b) &&& (2 * c + d) = 2 * (a &&& c) + (b &&& d) := by
  have h1 : ((2 * a + b) &&& (2 * c + d)) / 2 = a &&& c := by
    rw [Nat.and_div_two, show (2 * a + b) / 2 = a by omega, show (2 * c + d) / 2 = c by omega]
  have h2 : ((2 * a + b) &&& (2 * c + d)) % 2 = (b &&& d) := by
    have := Nat.and_mod_two_pow (a := 2 * a + b) (b := 2 * c + d) (n := 1)
    rw [Nat.pow_one] at this
    rw [this, show (2 * a + b) % 2 = b by omega, show (2 * c + d) % 2 = d by omega]
  have h3 := Nat.div_add_mod ((2 * a + b) &&& (2 * c + d)) 2
  rw [h1, h2] at h3
  exact h3.symm
theorem or_bit (a c b d : Nat) (hb : b ≤ 1) (hd : d ≤ 1) : (2 * a + b) ||| (2 * c + d) = 2 * (a ||| c) + (b ||| d) := by
  have h1 : ((2 * a + b) ||| (2 * c + d)) / 2 = a ||| c := by
    rw [Nat.or_div_two, show (2 * a + b) / 2 = a by omega, show (2 * c + d) / 2 = c by omega]
  have h2 : ((2 * a + b) ||| (2 * c + d)) % 2 = (b ||| d) := by
    have := Nat.or_mod_two_pow (a := 2 * a + b) (b := 2 * c + d) (n := 1)
    rw [Nat.pow_one] at this
    rw [this, show (2 * a + b) % 2 = b by omega, show (2 * c + d) % 2 = d by omega]
  have h3 := Nat.div_add_mod ((2 * a + b) ||| (2 * c + d)) 2
  rw [h1, h2] at h3
  exact h3.symm

/-- Bits as one number, the lowest first. -/
def bitN : List Bool → Nat
  | [] => 0
  | b :: l => b.toNat + 2 * bitN l
theorem bitN_lt : ∀ l : List Bool, bitN l < 2 ^ l.length
  | [] => by show 0 < 2 ^ 0; decide
  | b :: l => by
    have h := bitN_lt l
    have hb := Bool.toNat_le b
    show b.toNat + 2 * bitN l < 2 ^ (l.length + 1)
    rw [Nat.pow_succ]
    omega
theorem bitN_app : ∀ (a b : List Bool), bitN (a ++ b) = bitN a + 2 ^ a.length * bitN b
  | [], b => by show bitN b = 0 + 2 ^ 0 * bitN b; omega
  | x :: a, b => by
    show x.toNat + 2 * bitN (a ++ b) = x.toNat + 2 * bitN a + 2 ^ (a.length + 1) * bitN b
    rw [bitN_app, Nat.pow_succ, Nat.mul_add, ← Nat.mul_assoc, Nat.mul_comm (2 ^ a.length) 2, Nat.add_assoc]
theorem bitN_split (l : List Bool) (k : Nat) (hk : k ≤ l.length) : bitN l = bitN (l.take k) + 2 ^ k * bitN (l.drop k) := by
  have h := bitN_app (l.take k) (l.drop k)
  rw [List.take_append_drop, List.length_take, Nat.min_eq_left hk] at h
  exact h
theorem bitN_mod (l : List Bool) (k : Nat) : bitN l % 2 ^ k = bitN (l.take k) := by
  rcases Nat.lt_or_ge l.length k with h | h
  · rw [List.take_of_length_le (by omega), Nat.mod_eq_of_lt (Nat.lt_of_lt_of_le (bitN_lt l) (Nat.pow_le_pow_right (by omega) (by omega)))]
  · rw [bitN_split l k h, Nat.add_mul_mod_self_left, Nat.mod_eq_of_lt]
    have := bitN_lt (l.take k)
    rwa [List.length_take, Nat.min_eq_left h] at this
theorem bitN_div (l : List Bool) (k : Nat) : bitN l / 2 ^ k = bitN (l.drop k) := by
  rcases Nat.lt_or_ge l.length k with h | h
  · rw [List.drop_of_length_le (by omega), Nat.div_eq_of_lt (Nat.lt_of_lt_of_le (bitN_lt l) (Nat.pow_le_pow_right (by omega) (by omega)))]; rfl
  · have h1 := bitN_lt (l.take k)
    rw [List.length_take, Nat.min_eq_left h] at h1
    rw [bitN_split l k h, Nat.add_mul_div_left _ _ (Nat.two_pow_pos _), Nat.div_eq_of_lt h1, Nat.zero_add]
theorem bitN_bit {l : List Bool} {i : Nat} {b : Bool} (h : l[i]? = some b) : bitN l / 2 ^ i % 2 = b.toNat := by
  rw [bitN_div]
  obtain ⟨hi, rfl⟩ := List.getElem?_eq_some_iff.1 h
  rw [List.drop_eq_getElem_cons hi]
  show ((l[i]).toNat + 2 * bitN (l.drop (i + 1))) % 2 = _
  have := Bool.toNat_le l[i]
  omega
theorem bitN_set : ∀ {l : List Bool} {i : Nat} {b : Bool}, l[i]? = some b → ∀ c : Bool, bitN (l.set i c) + b.toNat * 2 ^ i = bitN l + c.toNat * 2 ^ i
  | [], i, b, h, c => by simp at h
  | x :: l, 0, b, h, c => by
    simp at h
    subst h
    show c.toNat + 2 * bitN l + x.toNat * 2 ^ 0 = x.toNat + 2 * bitN l + c.toNat * 2 ^ 0
    omega
  | x :: l, i + 1, b, h, c => by
    have ih := bitN_set (l := l) (i := i) (b := b) (by simpa using h) c
    show x.toNat + 2 * bitN (l.set i c) + b.toNat * 2 ^ (i + 1) = x.toNat + 2 * bitN l + c.toNat * 2 ^ (i + 1)
    rw [Nat.pow_succ, ← Nat.mul_assoc, ← Nat.mul_assoc]
    omega
theorem bitN_and : ∀ {a b : List Bool}, a.length = b.length → bitN a &&& bitN b = bitN (List.zipWith (· && ·) a b)
  | [], [], _ => rfl
  | x :: a, y :: b, h => by
    show (x.toNat + 2 * bitN a) &&& (y.toNat + 2 * bitN b) = (x && y).toNat + 2 * bitN (List.zipWith (· && ·) a b)
    rw [← bitN_and (a := a) (b := b) (by simpa using h), Nat.add_comm x.toNat, Nat.add_comm y.toNat, and_bit _ _ _ _ (Bool.toNat_le x) (Bool.toNat_le y), Nat.add_comm]
    congr 1
    cases x <;> cases y <;> rfl
  | [], _ :: _, h => by simp at h
  | _ :: _, [], h => by simp at h
theorem bitN_or : ∀ {a b : List Bool}, a.length = b.length → bitN a ||| bitN b = bitN (List.zipWith (· || ·) a b)
  | [], [], _ => rfl
  | x :: a, y :: b, h => by
    show (x.toNat + 2 * bitN a) ||| (y.toNat + 2 * bitN b) = (x || y).toNat + 2 * bitN (List.zipWith (· || ·) a b)
    rw [← bitN_or (a := a) (b := b) (by simpa using h), Nat.add_comm x.toNat, Nat.add_comm y.toNat, or_bit _ _ _ _ (Bool.toNat_le x) (Bool.toNat_le y), Nat.add_comm]
    congr 1
    cases x <;> cases y <;> rfl
  | [], _ :: _, h => by simp at h
  | _ :: _, [], h => by simp at h
theorem bitN_zeros (n : Nat) : bitN (List.replicate n false) = 0 := by
  induction n with
  | zero => rfl
  | succ n ih => rw [List.replicate_succ]; show (false).toNat + 2 * bitN _ = 0; rw [ih]; rfl
theorem bitN_ones (n : Nat) : bitN (List.replicate n true) = 2 ^ n - 1 := by
  induction n with
  | zero => rfl
  | succ n ih =>
    rw [List.replicate_succ]
    show (true).toNat + 2 * bitN _ = 2 ^ (n + 1) - 1
    rw [ih, Nat.pow_succ]
    have := Nat.two_pow_pos n
    show 1 + 2 * (2 ^ n - 1) = _
    omega
theorem bitN_one {n r : Nat} (h : r < n) : bitN ((List.replicate n false).set r true) = 2 ^ r := by
  have := bitN_set (l := List.replicate n false) (i := r) (b := false) (by simp [h]) true
  rw [bitN_zeros] at this
  simpa using this
theorem bitN_not_one {n r : Nat} (h : r < n) : bitN ((List.replicate n true).set r false) = 2 ^ n - 1 - 2 ^ r := by
  have := bitN_set (l := List.replicate n true) (i := r) (b := true) (by simp [h]) false
  rw [bitN_ones] at this
  exact Nat.eq_sub_of_add_eq (by simpa using this)
theorem bitN_set_one {l : List Bool} {r : Nat} (h : r < l.length) : bitN l ||| 2 ^ r = bitN (l.set r true) := by
  rw [← bitN_one h, bitN_or (by simp)]
  congr 1
  apply List.ext_getElem?
  intro i
  rw [List.getElem?_zipWith, List.getElem?_set, List.getElem?_set]
  by_cases hi : r = i
  · subst hi
    rw [if_pos rfl, if_pos rfl, if_pos (by simpa using h), if_pos h, List.getElem?_eq_getElem h]
    simp
  · rw [if_neg hi, if_neg hi]
    by_cases hl : i < l.length
    · simp [hl]
    · simp [hl]
theorem bitN_clear_one {l : List Bool} {r : Nat} (h : r < l.length) : bitN l &&& (2 ^ l.length - 1 - 2 ^ r) = bitN (l.set r false) := by
  rw [← bitN_not_one h, bitN_and (by simp)]
  congr 1
  apply List.ext_getElem?
  intro i
  rw [List.getElem?_zipWith, List.getElem?_set, List.getElem?_set]
  by_cases hi : r = i
  · subst hi
    rw [if_pos rfl, if_pos rfl, if_pos (by simpa using h), if_pos h, List.getElem?_eq_getElem h]
    simp
  · rw [if_neg hi, if_neg hi]
    by_cases hl : i < l.length
    · simp [hl]
    · simp [hl]
/-- The first one. -/
def ft : List Bool → Nat
  | [] => 0
  | true :: _ => 0
  | false :: l => ft l + 1
/-- Without the first k ones. -/
def clrN : Nat → List Bool → List Bool
  | 0, l => l
  | _ + 1, [] => []
  | k + 1, true :: l => false :: clrN k l
  | k + 1, false :: l => false :: clrN (k + 1) l
theorem clrN_len : ∀ (k : Nat) (l : List Bool), (clrN k l).length = l.length
  | 0, l => by cases l <;> rfl
  | _ + 1, [] => rfl
  | k + 1, true :: l => by show (clrN k l).length + 1 = _; rw [clrN_len]; rfl
  | k + 1, false :: l => by show (clrN (k + 1) l).length + 1 = _; rw [clrN_len]; rfl
theorem clrN_count : ∀ (k : Nat) (l : List Bool), (clrN k l).count true = l.count true - k
  | 0, l => by cases l <;> rfl
  | _ + 1, [] => by simp [clrN]
  | k + 1, true :: l => by
    show (false :: clrN k l).count true = _
    rw [List.count_cons, List.count_cons, clrN_count]
    simp
  | k + 1, false :: l => by
    show (false :: clrN (k + 1) l).count true = _
    rw [List.count_cons, List.count_cons, clrN_count]
    simp
theorem clrN_succ : ∀ (k : Nat) (l : List Bool), clrN 1 (clrN k l) = clrN (k + 1) l
  | 0, l => by cases l <;> rfl
  | k + 1, [] => rfl
  | k + 1, true :: l => by show false :: clrN 1 (clrN k l) = false :: clrN (k + 1) l; rw [clrN_succ]
  | k + 1, false :: l => by show false :: clrN 1 (clrN (k + 1) l) = false :: clrN (k + 2) l; rw [clrN_succ]
theorem bitN_pos : ∀ {l : List Bool}, 0 < l.count true → 0 < bitN l
  | [], h => by simp at h
  | true :: l, _ => by show 0 < (true).toNat + 2 * bitN l; simp; omega
  | false :: l, h => by
    have := bitN_pos (l := l) (by simpa [List.count_cons] using h)
    show 0 < (false).toNat + 2 * bitN l
    omega
/-- The lowest one struck. -/
theorem bitN_clr : ∀ {l : List Bool}, 0 < l.count true → bitN l &&& (bitN l - 1) = bitN (clrN 1 l)
  | [], h => by simp at h
  | true :: l, _ => by
    show ((true).toNat + 2 * bitN l) &&& ((true).toNat + 2 * bitN l - 1) = (false).toNat + 2 * bitN (clrN 0 l)
    have h := and_bit (bitN l) (bitN l) 1 0 (by omega) (by omega)
    rw [Nat.and_self, Nat.and_zero] at h
    have e0 : clrN 0 l = l := by cases l <;> rfl
    rw [e0]
    show (1 + 2 * bitN l) &&& (1 + 2 * bitN l - 1) = 0 + 2 * bitN l
    rw [show 1 + 2 * bitN l - 1 = 2 * bitN l + 0 by omega, Nat.add_comm 1, h, Nat.zero_add, Nat.add_zero]
  | false :: l, h => by
    have hl : 0 < l.count true := by simpa [List.count_cons] using h
    have hp := bitN_pos hl
    have ih := bitN_clr hl
    show ((false).toNat + 2 * bitN l) &&& ((false).toNat + 2 * bitN l - 1) = (false).toNat + 2 * bitN (clrN 1 l)
    have h := and_bit (bitN l) (bitN l - 1) 0 1 (by omega) (by omega)
    rw [Nat.zero_and, ih] at h
    show (0 + 2 * bitN l) &&& (0 + 2 * bitN l - 1) = 0 + 2 * bitN (clrN 1 l)
    rw [show 0 + 2 * bitN l = 2 * bitN l + 0 by omega, show 2 * bitN l + 0 - 1 = 2 * (bitN l - 1) + 1 by omega, h]
    omega
theorem and_compl : ∀ (l : List Bool), bitN l &&& (2 ^ l.length - 1 - bitN l) = 0
  | [] => rfl
  | b :: l => by
    have ih := and_compl l
    have hlt := bitN_lt l
    have hb := Bool.toNat_le b
    show (b.toNat + 2 * bitN l) &&& (2 ^ (l.length + 1) - 1 - (b.toNat + 2 * bitN l)) = 0
    have h := and_bit (bitN l) (2 ^ l.length - 1 - bitN l) b.toNat (1 - b.toNat) hb (by omega)
    rw [ih] at h
    rw [Nat.pow_succ, show 2 ^ l.length * 2 - 1 - (b.toNat + 2 * bitN l) = 2 * (2 ^ l.length - 1 - bitN l) + (1 - b.toNat) by omega, Nat.add_comm b.toNat, h]
    cases b <;> rfl
/-- The lowest one alone. -/
theorem and_neg : ∀ {l : List Bool}, 0 < l.count true → bitN l &&& (2 ^ l.length - bitN l) = 2 ^ ft l
  | [], h => by simp at h
  | true :: l, _ => by
    have hc := and_compl l
    have hlt := bitN_lt l
    have h := and_bit (bitN l) (2 ^ l.length - 1 - bitN l) 1 1 (by omega) (by omega)
    rw [hc] at h
    show (1 + 2 * bitN l) &&& (2 ^ (l.length + 1) - (1 + 2 * bitN l)) = 2 ^ 0
    rw [Nat.pow_succ, show 2 ^ l.length * 2 - (1 + 2 * bitN l) = 2 * (2 ^ l.length - 1 - bitN l) + 1 by omega, Nat.add_comm 1, h]
    rfl
  | false :: l, hc => by
    have hl : 0 < l.count true := by simpa [List.count_cons] using hc
    have ih := and_neg hl
    have hlt := bitN_lt l
    have h := and_bit (bitN l) (2 ^ l.length - bitN l) 0 0 (by omega) (by omega)
    rw [ih] at h
    show (0 + 2 * bitN l) &&& (2 ^ (l.length + 1) - (0 + 2 * bitN l)) = 2 ^ (ft l + 1)
    rw [Nat.pow_succ, show 2 ^ l.length * 2 - (0 + 2 * bitN l) = 2 * (2 ^ l.length - bitN l) + 0 by omega, show 0 + 2 * bitN l = 2 * bitN l + 0 by omega, h, Nat.pow_succ]
    show 2 * 2 ^ ft l + 0 = _
    omega
theorem ft_lt : ∀ {l : List Bool}, 0 < l.count true → ft l < l.length
  | [], h => by simp at h
  | true :: l, _ => by show 0 < l.length + 1; omega
  | false :: l, h => by
    have := ft_lt (l := l) (by simpa [List.count_cons] using h)
    show ft l + 1 < l.length + 1
    omega
/-- The place of the one below which so many stand. -/
def IsSel (l : List Bool) (k i : Nat) : Prop := l[i]? = some true ∧ (l.take i).count true = k
theorem sel_clr : ∀ {l : List Bool} {k : Nat}, k < l.count true → IsSel l k (ft (clrN k l))
  | [], k, h => by simp at h
  | true :: l, 0, _ => ⟨rfl, rfl⟩
  | true :: l, k + 1, h => by
    have ih := sel_clr (l := l) (k := k) (by simp at h; omega)
    show (true :: l)[ft (clrN k l) + 1]? = some true ∧ ((true :: l).take (ft (clrN k l) + 1)).count true = k + 1
    refine ⟨by simpa using ih.1, ?_⟩
    rw [List.take_succ_cons, List.count_cons, ih.2]
    simp
  | false :: l, k, h => by
    have hc : k < l.count true := by simpa [List.count_cons] using h
    have ih := sel_clr hc
    have e : ft (clrN k (false :: l)) = ft (clrN k l) + 1 := by
      cases k with
      | zero =>
        have : clrN 0 l = l := by cases l <;> rfl
        rw [this]; rfl
      | succ k => rfl
    rw [e]
    refine ⟨by simpa using ih.1, ?_⟩
    rw [List.take_succ_cons, List.count_cons, ih.2]
    simp
theorem count_take_le (l : List Bool) {i j : Nat} (h : i ≤ j) : (l.take i).count true ≤ (l.take j).count true := by
  have : l.take i = (l.take j).take i := by rw [List.take_take, Nat.min_eq_left h]
  rw [this]
  exact (List.take_sublist i _).count_le true
theorem IsSel.count {l : List Bool} {k i : Nat} (h : IsSel l k i) : (l.take (i + 1)).count true = k + 1 := by
  rw [List.take_add_one, h.1, List.count_append, h.2]
  rfl
theorem IsSel.unique {l : List Bool} {k i j : Nat} (h : IsSel l k i) (h' : IsSel l k j) : i = j := by
  rcases Nat.lt_trichotomy i j with hl | hl | hl
  · have h1 := h.count
    have h2 := count_take_le l (show i + 1 ≤ j by omega)
    have h3 := h'.2
    omega
  · exact hl
  · have h1 := h'.count
    have h2 := count_take_le l (show j + 1 ≤ i by omega)
    have h3 := h.2
    omega
theorem IsSel.lt {l : List Bool} {k i : Nat} (h : IsSel l k i) : k < l.count true := by
  have h1 := h.count
  have h2 := (List.take_sublist (i + 1) l).count_le true
  omega
/-- Of a list in parts. -/
theorem IsSel.drop {l : List Bool} {k i p : Nat} (h : IsSel (l.drop p) k i) : IsSel l (k + (l.take p).count true) (p + i) := by
  refine ⟨by have := h.1; rwa [List.getElem?_drop] at this, ?_⟩
  rw [List.take_add, List.count_append, h.2, Nat.add_comm]
theorem IsSel.take {l : List Bool} {k i p : Nat} (h : IsSel (l.take p) k i) : IsSel l k i := by
  have hi : i < p := by
    have h1 := (List.getElem?_eq_some_iff.1 h.1).1
    rw [List.length_take] at h1
    omega
  refine ⟨?_, ?_⟩
  · have h1 := h.1
    rwa [List.getElem?_take, if_pos hi] at h1
  · have h2 := h.2
    rwa [List.take_take, Nat.min_eq_left (by omega)] at h2
/-- How many ones a number has, of so many bits. -/
def popN : Nat → Nat → Nat
  | 0, _ => 0
  | k + 1, x => x % 2 + popN k (x / 2)
theorem popN_bitN : ∀ (k : Nat) (l : List Bool), l.length ≤ k → popN k (bitN l) = l.count true
  | 0, [], _ => rfl
  | 0, _ :: _, h => by simp at h
  | k + 1, [], _ => by
    have := popN_bitN k [] (Nat.zero_le _)
    show 0 % 2 + popN k (0 / 2) = 0
    simpa [bitN] using this
  | k + 1, b :: l, h => by
    have ih := popN_bitN k l (by simpa using h)
    have hb := Bool.toNat_le b
    show (b.toNat + 2 * bitN l) % 2 + popN k ((b.toNat + 2 * bitN l) / 2) = _
    rw [show (b.toNat + 2 * bitN l) % 2 = b.toNat by omega, show (b.toNat + 2 * bitN l) / 2 = bitN l by omega, ih, List.count_cons]
    cases b <;> simp <;> omega
theorem popN_split : ∀ (j k b y : Nat), b < 2 ^ j → popN (j + k) (b + 2 ^ j * y) = popN j b + popN k y
  | 0, k, b, y, h => by
    have : b = 0 := by rw [Nat.pow_zero] at h; omega
    subst this
    show popN (0 + k) (0 + 2 ^ 0 * y) = 0 + popN k y
    rw [Nat.pow_zero, Nat.zero_add, Nat.zero_add, Nat.one_mul, Nat.zero_add]
  | j + 1, k, b, y, h => by
    have ih := popN_split j k (b / 2) y (by rw [Nat.pow_succ] at h; omega)
    rw [show j + 1 + k = (j + k) + 1 by omega]
    show (b + 2 ^ (j + 1) * y) % 2 + popN (j + k) ((b + 2 ^ (j + 1) * y) / 2) = b % 2 + popN j (b / 2) + popN k y
    have e : 2 ^ (j + 1) * y = 2 * (2 ^ j * y) := by rw [Nat.pow_succ, Nat.mul_comm (2 ^ j) 2, Nat.mul_assoc]
    rw [e, show (b + 2 * (2 ^ j * y)) % 2 = b % 2 by omega, show (b + 2 * (2 ^ j * y)) / 2 = b / 2 + 2 ^ j * y by omega, ih]
    omega
theorem and_byte (a m x M : Nat) (ha : a < 256) (hm : m < 256) : (a + 256 * x) &&& (m + 256 * M) = (a &&& m) + 256 * (x &&& M) := by
  have h1 : ((a + 256 * x) &&& (m + 256 * M)) / 256 = x &&& M := by
    have := Nat.and_div_two_pow (a := a + 256 * x) (b := m + 256 * M) (n := 8)
    rw [show (2 : Nat) ^ 8 = 256 from rfl] at this
    rw [this, show (a + 256 * x) / 256 = x by omega, show (m + 256 * M) / 256 = M by omega]
  have h2 : ((a + 256 * x) &&& (m + 256 * M)) % 256 = (a &&& m) := by
    have := Nat.and_mod_two_pow (a := a + 256 * x) (b := m + 256 * M) (n := 8)
    rw [show (2 : Nat) ^ 8 = 256 from rfl] at this
    rw [this, show (a + 256 * x) % 256 = a by omega, show (m + 256 * M) % 256 = m by omega]
  have h3 := Nat.div_add_mod ((a + 256 * x) &&& (m + 256 * M)) 256
  rw [h1, h2] at h3
  omega
def g1 (b : Nat) : Nat := (b / 2 &&& 85) + (b &&& 85)
def g2 (b : Nat) : Nat := (b / 4 &&& 51) + (b &&& 51)
def g3 (b : Nat) : Nat := (b / 16 + b) &&& 15
theorem byte1 : ∀ b : Nat, b < 256 → ∀ p : Nat, p < 2 → (b / 2 + 128 * p) &&& 85 = b / 2 &&& 85 := by decide +kernel
theorem byte2 : ∀ b : Nat, b < 256 → ∀ p : Nat, p < 4 → (b / 4 + 64 * p) &&& 51 = b / 4 &&& 51 := by decide +kernel
theorem byte_pop : ∀ b : Nat, b < 256 → g1 b < 256 ∧ g2 (g1 b) < 256 ∧ g2 (g1 b) % 16 ≤ 4 ∧ g2 (g1 b) / 16 ≤ 4 ∧ g3 (g2 (g1 b)) = popN 8 b ∧ popN 8 b ≤ 8 := by decide +kernel
theorem byte3 : ∀ c : Nat, c < 256 → c % 16 ≤ 4 → c / 16 ≤ 4 → ∀ p : Nat, p ≤ 4 → c / 16 + c + 16 * p < 256 ∧ (c / 16 + c + 16 * p) &&& 15 = g3 c := by
  have : ∀ c : Nat, c < 80 → c % 16 ≤ 4 → c / 16 ≤ 4 → ∀ p : Nat, p < 5 → c / 16 + c + 16 * p < 256 ∧ (c / 16 + c + 16 * p) &&& 15 = g3 c := by decide +kernel
  intro c hc h1 h2 p hp
  exact this c (by omega) h1 h2 p (by omega)
theorem st1 (b y M : Nat) (hb : b < 256) : ((b + 256 * y) / 2 &&& (85 + 256 * M)) + ((b + 256 * y) &&& (85 + 256 * M)) = g1 b + 256 * ((y / 2 &&& M) + (y &&& M)) := by
  rw [show (b + 256 * y) / 2 = (b / 2 + 128 * (y % 2)) + 256 * (y / 2) by omega, and_byte _ _ _ _ (by omega) (by omega), and_byte _ _ _ _ hb (by omega), byte1 b hb _ (by omega)]
  unfold g1
  omega
theorem st2 (b y M : Nat) (hb : b < 256) : ((b + 256 * y) / 4 &&& (51 + 256 * M)) + ((b + 256 * y) &&& (51 + 256 * M)) = g2 b + 256 * ((y / 4 &&& M) + (y &&& M)) := by
  rw [show (b + 256 * y) / 4 = (b / 4 + 64 * (y % 4)) + 256 * (y / 4) by omega, and_byte _ _ _ _ (by omega) (by omega), and_byte _ _ _ _ hb (by omega), byte2 b hb _ (by omega)]
  unfold g2
  omega
theorem st3 (c y M : Nat) (hc : c < 256) (h1 : c % 16 ≤ 4) (h2 : c / 16 ≤ 4) (hy : y % 16 ≤ 4) : (((c + 256 * y) / 16 + (c + 256 * y)) &&& (15 + 256 * M)) = g3 c + 256 * ((y / 16 + y) &&& M) := by
  have h3 := byte3 c hc h1 h2 (y % 16) hy
  rw [show (c + 256 * y) / 16 + (c + 256 * y) = (c / 16 + c + 16 * (y % 16)) + 256 * (y / 16 + y) by omega, and_byte _ _ _ _ h3.1 (by omega), h3.2]
theorem sum8 {u0 u1 u2 u3 u4 u5 u6 u7 c d e f : Nat} (q0 : u0 ≤ 8) (q1 : u1 ≤ 8) (q2 : u2 ≤ 8) (q3 : u3 ≤ 8) (q4 : u4 ≤ 8) (q5 : u5 ≤ 8) (q6 : u6 ≤ 8) (q7 : u7 ≤ 8)
    (ec : c = u0 + 256 * (u1 + 256 * (u2 + 256 * (u3 + 256 * (u4 + 256 * (u5 + 256 * (u6 + 256 * u7))))))) (hd : d = c + c / 256) (he : e = d + d / 65536) (hf : f = e + e / 4294967296) :
    f % 128 = u0 + (u1 + (u2 + (u3 + (u4 + (u5 + (u6 + u7)))))) ∧ f < 2 ^ 62 ∧ e < 2 ^ 64 ∧ d < 2 ^ 64 := by
  have h1 : c / 256 = (u1) + 256 * ((u2) + 256 * ((u3) + 256 * ((u4) + 256 * ((u5) + 256 * ((u6) + 256 * (u7)))))) := by clear hd he hf; omega
  have hd' : d = (u0 + u1) + 256 * ((u1 + u2) + 256 * ((u2 + u3) + 256 * ((u3 + u4) + 256 * ((u4 + u5) + 256 * ((u5 + u6) + 256 * ((u6 + u7) + 256 * (u7))))))) := by rw [hd, h1, ec]; clear hd he hf h1 ec; omega
  clear hd h1
  have h2 : d / 65536 = (u2 + u3) + 256 * ((u3 + u4) + 256 * ((u4 + u5) + 256 * ((u5 + u6) + 256 * ((u6 + u7) + 256 * (u7))))) := by clear he hf ec; omega
  have he' : e = (u0 + u1 + u2 + u3) + 256 * ((u1 + u2 + u3 + u4) + 256 * ((u2 + u3 + u4 + u5) + 256 * ((u3 + u4 + u5 + u6) + 256 * ((u4 + u5 + u6 + u7) + 256 * ((u5 + u6 + u7) + 256 * ((u6 + u7) + 256 * (u7))))))) := by rw [he, h2, hd']; clear he hf h2 hd' ec; omega
  clear he h2
  have h3 : e / 4294967296 = (u4 + u5 + u6 + u7) + 256 * ((u5 + u6 + u7) + 256 * ((u6 + u7) + 256 * (u7))) := by clear hf ec hd'; omega
  have hf' : f = (u0 + u1 + u2 + u3 + u4 + u5 + u6 + u7) + 256 * ((u1 + u2 + u3 + u4 + u5 + u6 + u7) + 256 * ((u2 + u3 + u4 + u5 + u6 + u7) + 256 * ((u3 + u4 + u5 + u6 + u7) + 256 * ((u4 + u5 + u6 + u7) + 256 * ((u5 + u6 + u7) + 256 * ((u6 + u7) + 256 * (u7))))))) := by rw [hf, h3, he']; clear hf h3 he' hd' ec; omega
  clear hf h3
  refine ⟨?_, ?_, ?_, ?_⟩
  · rw [hf']; clear hf' he' hd' ec; omega
  · rw [hf']; clear hf' he' hd' ec; omega
  · rw [he']; clear hf' he' hd' ec; omega
  · rw [hd']; clear hf' he' hd' ec; omega
theorem lt8 {r0 r1 r2 r3 r4 r5 r6 r7 a : Nat} (h0 : r0 < 256) (h1 : r1 < 256) (h2 : r2 < 256) (h3 : r3 < 256) (h4 : r4 < 256) (h5 : r5 < 256) (h6 : r6 < 256) (h7 : r7 < 256)
    (ea : a = r0 + 256 * (r1 + 256 * (r2 + 256 * (r3 + 256 * (r4 + 256 * (r5 + 256 * (r6 + 256 * r7))))))) : a < 2 ^ 64 := by omega
theorem lt8' {r0 r1 r2 r3 r4 r5 r6 r7 a : Nat} (h0 : r0 < 256) (h1 : r1 < 256) (h2 : r2 < 256) (h3 : r3 < 256) (h4 : r4 < 256) (h5 : r5 < 256) (h6 : r6 < 256) (h7 : r7 / 16 ≤ 4)
    (ea : a = r0 + 256 * (r1 + 256 * (r2 + 256 * (r3 + 256 * (r4 + 256 * (r5 + 256 * (r6 + 256 * r7))))))) : a / 16 + a < 2 ^ 64 := by omega
set_option maxRecDepth 10000 in
theorem swar {x : Nat} (hx : x < 2 ^ 64) {a b c d e f : Nat} (ha : a = (x / 2 &&& 6148914691236517205) + (x &&& 6148914691236517205)) (hb : b = (a / 4 &&& 3689348814741910323) + (a &&& 3689348814741910323))
    (hc : c = ((b / 16 + b) &&& 1085102592571150095)) (hd : d = c + c / 256) (he : e = d + d / 65536) (hf : f = e + e / 4294967296) : f % 128 = popN 64 x ∧ f < 2 ^ 62 ∧ e < 2 ^ 64 ∧ d < 2 ^ 64 ∧ b / 16 + b < 2 ^ 64 ∧ a < 2 ^ 64 ∧ b < 2 ^ 64 := by
  obtain ⟨b0, hb0⟩ : ∃ b0, b0 = x % 256 := ⟨_, rfl⟩
  obtain ⟨b1, hb1⟩ : ∃ b1, b1 = x / 256 % 256 := ⟨_, rfl⟩
  obtain ⟨b2, hb2⟩ : ∃ b2, b2 = x / 65536 % 256 := ⟨_, rfl⟩
  obtain ⟨b3, hb3⟩ : ∃ b3, b3 = x / 16777216 % 256 := ⟨_, rfl⟩
  obtain ⟨b4, hb4⟩ : ∃ b4, b4 = x / 4294967296 % 256 := ⟨_, rfl⟩
  obtain ⟨b5, hb5⟩ : ∃ b5, b5 = x / 1099511627776 % 256 := ⟨_, rfl⟩
  obtain ⟨b6, hb6⟩ : ∃ b6, b6 = x / 281474976710656 % 256 := ⟨_, rfl⟩
  obtain ⟨b7, hb7⟩ : ∃ b7, b7 = x / 72057594037927936 := ⟨_, rfl⟩
  have ex : x = b0 + 256 * (b1 + 256 * (b2 + 256 * (b3 + 256 * (b4 + 256 * (b5 + 256 * (b6 + 256 * b7)))))) := by omega
  have l0 : b0 < 256 := by omega
  have l1 : b1 < 256 := by omega
  have l2 : b2 < 256 := by omega
  have l3 : b3 < 256 := by omega
  have l4 : b4 < 256 := by omega
  have l5 : b5 < 256 := by omega
  have l6 : b6 < 256 := by omega
  have l7 : b7 < 256 := by omega
  have hp : popN 64 x = popN 8 b0 + (popN 8 b1 + (popN 8 b2 + (popN 8 b3 + (popN 8 b4 + (popN 8 b5 + (popN 8 b6 + popN 8 b7)))))) := by
    rw [ex]
    rw [show (64 : Nat) = 8 + 56 from rfl, popN_split 8 56 b0 _ l0, show (56 : Nat) = 8 + 48 from rfl, show (256 : Nat) = 2 ^ 8 from rfl, popN_split 8 48 b1 _ l1, show (48 : Nat) = 8 + 40 from rfl, popN_split 8 40 b2 _ l2, show (40 : Nat) = 8 + 32 from rfl, popN_split 8 32 b3 _ l3, show (32 : Nat) = 8 + 24 from rfl, popN_split 8 24 b4 _ l4, show (24 : Nat) = 8 + 16 from rfl, popN_split 8 16 b5 _ l5, show (16 : Nat) = 8 + 8 from rfl, popN_split 8 8 b6 _ l6]
  clear hb0 hb1 hb2 hb3 hb4 hb5 hb6 hb7 hx
  have p0 := byte_pop b0 l0
  have p1 := byte_pop b1 l1
  have p2 := byte_pop b2 l2
  have p3 := byte_pop b3 l3
  have p4 := byte_pop b4 l4
  have p5 := byte_pop b5 l5
  have p6 := byte_pop b6 l6
  have p7 := byte_pop b7 l7
  have ea : a = g1 b0 + 256 * (g1 b1 + 256 * (g1 b2 + 256 * (g1 b3 + 256 * (g1 b4 + 256 * (g1 b5 + 256 * (g1 b6 + 256 * g1 b7)))))) := by
    rw [ha, ex]
    rw [show (6148914691236517205 : Nat) = 85 + 256 * 24019198012642645 from rfl, st1 _ _ _ l0, show (24019198012642645 : Nat) = 85 + 256 * 93824992236885 from rfl, st1 _ _ _ l1, show (93824992236885 : Nat) = 85 + 256 * 366503875925 from rfl, st1 _ _ _ l2, show (366503875925 : Nat) = 85 + 256 * 1431655765 from rfl, st1 _ _ _ l3, show (1431655765 : Nat) = 85 + 256 * 5592405 from rfl, st1 _ _ _ l4, show (5592405 : Nat) = 85 + 256 * 21845 from rfl, st1 _ _ _ l5, show (21845 : Nat) = 85 + 256 * 85 from rfl, st1 _ _ _ l6]
    rfl
  have eb : b = g2 (g1 b0) + 256 * (g2 (g1 b1) + 256 * (g2 (g1 b2) + 256 * (g2 (g1 b3) + 256 * (g2 (g1 b4) + 256 * (g2 (g1 b5) + 256 * (g2 (g1 b6) + 256 * g2 (g1 b7))))))) := by
    rw [hb, ea]
    rw [show (3689348814741910323 : Nat) = 51 + 256 * 14411518807585587 from rfl, st2 _ _ _ p0.1, show (14411518807585587 : Nat) = 51 + 256 * 56294995342131 from rfl, st2 _ _ _ p1.1, show (56294995342131 : Nat) = 51 + 256 * 219902325555 from rfl, st2 _ _ _ p2.1, show (219902325555 : Nat) = 51 + 256 * 858993459 from rfl, st2 _ _ _ p3.1, show (858993459 : Nat) = 51 + 256 * 3355443 from rfl, st2 _ _ _ p4.1, show (3355443 : Nat) = 51 + 256 * 13107 from rfl, st2 _ _ _ p5.1, show (13107 : Nat) = 51 + 256 * 51 from rfl, st2 _ _ _ p6.1]
    rfl
  have ec : c = popN 8 b0 + 256 * (popN 8 b1 + 256 * (popN 8 b2 + 256 * (popN 8 b3 + 256 * (popN 8 b4 + 256 * (popN 8 b5 + 256 * (popN 8 b6 + 256 * popN 8 b7)))))) := by
    rw [hc, eb]
    rw [show (1085102592571150095 : Nat) = 15 + 256 * 4238682002231055 from rfl, st3 _ _ _ p0.2.1 p0.2.2.1 p0.2.2.2.1 (by omega), show (4238682002231055 : Nat) = 15 + 256 * 16557351571215 from rfl, st3 _ _ _ p1.2.1 p1.2.2.1 p1.2.2.2.1 (by omega), show (16557351571215 : Nat) = 15 + 256 * 64677154575 from rfl, st3 _ _ _ p2.2.1 p2.2.2.1 p2.2.2.2.1 (by omega), show (64677154575 : Nat) = 15 + 256 * 252645135 from rfl, st3 _ _ _ p3.2.1 p3.2.2.1 p3.2.2.2.1 (by omega), show (252645135 : Nat) = 15 + 256 * 986895 from rfl, st3 _ _ _ p4.2.1 p4.2.2.1 p4.2.2.2.1 (by omega), show (986895 : Nat) = 15 + 256 * 3855 from rfl, st3 _ _ _ p5.2.1 p5.2.2.1 p5.2.2.2.1 (by omega), show (3855 : Nat) = 15 + 256 * 15 from rfl, st3 _ _ _ p6.2.1 p6.2.2.1 p6.2.2.2.1 (by omega), p0.2.2.2.2.1, p1.2.2.2.2.1, p2.2.2.2.2.1, p3.2.2.2.2.1, p4.2.2.2.2.1, p5.2.2.2.2.1, p6.2.2.2.2.1, ← p7.2.2.2.2.1]
    rfl
  rw [hp]
  have q0 := p0.2.2.2.2.2
  have q1 := p1.2.2.2.2.2
  have q2 := p2.2.2.2.2.2
  have q3 := p3.2.2.2.2.2
  have q4 := p4.2.2.2.2.2
  have q5 := p5.2.2.2.2.2
  have q6 := p6.2.2.2.2.2
  have q7 := p7.2.2.2.2.2
  have r0 := p0.1
  have r1 := p1.1
  have r2 := p2.1
  have r3 := p3.1
  have r4 := p4.1
  have r5 := p5.1
  have r6 := p6.1
  have r7 := p7.1
  have s0 := p0.2.1
  have s1 := p1.2.1
  have s2 := p2.2.1
  have s3 := p3.2.1
  have s4 := p4.2.1
  have s5 := p5.2.1
  have s6 := p6.2.1
  have s7 := p7.2.1
  have t7 := p7.2.2.2.1
  have hs := sum8 q0 q1 q2 q3 q4 q5 q6 q7 ec hd he hf
  exact ⟨hs.1, hs.2.1, hs.2.2.1, hs.2.2.2, lt8' s0 s1 s2 s3 s4 s5 s6 t7 eb, lt8 r0 r1 r2 r3 r4 r5 r6 r7 ea, lt8 s0 s1 s2 s3 s4 s5 s6 s7 eb⟩
end Go.Proofs.Ytldmabkilgpgcaa
