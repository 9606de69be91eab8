/-
  LAYER 15 (tree), plain: sides, quarters, levels.
  CONDITIONS: as each says.
-/
import Derived.Test.YtldmabkilgpgcaaBase
namespace Go.Proofs.Ytldmabkilgpgcaa

/-- The least side, from s on. -/
def sideF : Nat → Int → Int → Int
  | 0, _, _ => 0
  | n + 1, s, m => if m ≤ s then s else sideF n (2 * s) m
def sideI (m : Int) : Int := sideF 17 2 m
theorem sideF_spec : ∀ (n k : Nat) (m : Int), (sideF n ((2 ^ (k + 1) : Nat) : Int) m = 0 ∧ (n = 0 ∨ ((2 ^ (k + n) : Nat) : Int) < m)) ∨ ∃ j, k < j ∧ j ≤ k + n ∧ sideF n ((2 ^ (k + 1) : Nat) : Int) m = ((2 ^ j : Nat) : Int) ∧ m ≤ ((2 ^ j : Nat) : Int) ∧ (j = k + 1 ∨ ((2 ^ (j - 1) : Nat) : Int) < m)
  | 0, k, m => .inl ⟨rfl, .inl rfl⟩
  | n + 1, k, m => by
    unfold sideF
    by_cases h : m ≤ ((2 ^ (k + 1) : Nat) : Int)
    · rw [if_pos h]
      exact .inr ⟨k + 1, by omega, by omega, rfl, h, .inl rfl⟩
    · rw [if_neg h, show 2 * ((2 ^ (k + 1) : Nat) : Int) = ((2 ^ (k + 1 + 1) : Nat) : Int) by rw [Nat.pow_succ 2 (k + 1), Int.natCast_mul, Int.mul_comm]; rfl]
      rcases sideF_spec n (k + 1) m with ⟨h1, h2⟩ | ⟨j, h1, h2, h3, h4, h5⟩
      · refine .inl ⟨h1, .inr ?_⟩
        rcases h2 with rfl | h2
        · rw [Nat.zero_add]; omega
        · rwa [show k + (n + 1) = k + 1 + n by omega]
      · refine .inr ⟨j, by omega, by omega, h3, h4, .inr ?_⟩
        rcases h5 with rfl | h5
        · rw [Nat.add_sub_cancel]; omega
        · exact h5
/-- The least side: none, or a power of two that is enough, while half of it is not. -/
theorem sideI_spec (m : Int) : (sideI m = 0 ∧ 131072 < m) ∨ ∃ j, 1 ≤ j ∧ j ≤ 17 ∧ sideI m = ((2 ^ j : Nat) : Int) ∧ m ≤ ((2 ^ j : Nat) : Int) ∧ (j = 1 ∨ ((2 ^ (j - 1) : Nat) : Int) < m) := by
  rcases sideF_spec 17 0 m with ⟨h1, h2⟩ | ⟨j, h1, h2, h3, h4, h5⟩
  · refine .inl ⟨h1, ?_⟩
    rcases h2 with h2 | h2
    · cases h2
    · exact h2
  · exact .inr ⟨j, h1, by omega, h3, h4, h5⟩
theorem pow2_inj {a b : Nat} (h : 2 ^ a = 2 ^ b) : a = b := by
  have h1 := (Nat.pow_le_pow_iff_right (by omega : 1 < 2)).1 (Nat.le_of_eq h)
  have h2 := (Nat.pow_le_pow_iff_right (by omega : 1 < 2)).1 (Nat.le_of_eq h.symm)
  omega
/-- Is it a side? -/
theorem side_is {s : Int} (h2 : 2 ≤ s) : sideI s = s ↔ ∃ h, 1 ≤ h ∧ h ≤ 17 ∧ s = ((2 ^ h : Nat) : Int) := by
  rcases sideI_spec s with ⟨e1, e2⟩ | ⟨j, j1, j2, j3, j4, j5⟩
  · refine ⟨fun h => by omega, fun ⟨h, a, b, c⟩ => ?_⟩
    have : 2 ^ h ≤ 2 ^ 17 := Nat.pow_le_pow_right (by omega) b
    omega
  · refine ⟨fun h => ⟨j, j1, j2, by omega⟩, fun ⟨h, a, b, c⟩ => ?_⟩
    rw [j3, c]
    subst c
    have h1 : h ≤ j := (Nat.pow_le_pow_iff_right (by omega : 1 < 2)).1 (by omega)
    rcases j5 with rfl | j5
    · rw [show h = 1 by omega]
    · have h3 : ¬ h ≤ j - 1 := fun hc => by
        have := Nat.pow_le_pow_right (n := 2) (by omega) hc
        omega
      rw [show h = j by omega]
/-- How many times a side is halved; 0: it is none. -/
def hgt (s : Int) : Nat := if s < 2 then 0 else if sideI s = s then Nat.log2 s.toNat else 0
theorem hgt_pow {h : Nat} (h1 : 1 ≤ h) (h2 : h ≤ 17) : hgt ((2 ^ h : Nat) : Int) = h := by
  have hp : 2 ^ 1 ≤ 2 ^ h := Nat.pow_le_pow_right (by omega) h1
  unfold hgt
  rw [if_neg (by omega), if_pos ((side_is (by omega)).2 ⟨h, h1, h2, rfl⟩), Int.toNat_natCast, Nat.log2_two_pow]
theorem hgt_spec (s : Int) : (hgt s = 0 ∧ ¬ (2 ≤ s ∧ sideI s = s)) ∨ (1 ≤ hgt s ∧ hgt s ≤ 17 ∧ s = ((2 ^ hgt s : Nat) : Int)) := by
  by_cases h2 : s < 2
  · exact .inl ⟨by unfold hgt; rw [if_pos h2], fun h => by omega⟩
  · by_cases h3 : sideI s = s
    · obtain ⟨h, a, b, c⟩ := (side_is (by omega)).1 h3
      refine .inr ?_
      rw [c, hgt_pow a b]
      exact ⟨a, b, rfl⟩
    · exact .inl ⟨by unfold hgt; rw [if_neg h2, if_neg h3], fun h => h3 h.2⟩
/-- The quarter of a pair, so many halvings above cells. -/
def qN (h : Nat) (p : Nat × Nat) : Nat := 2 * (p.1 / 2 ^ h % 2) + p.2 / 2 ^ h % 2
theorem qN_lt (h : Nat) (p : Nat × Nat) : qN h p < 4 := by unfold qN; omega
/-- The pairs of a quarter. -/
def part (h : Nat) (l : List (Nat × Nat)) (q : Nat) : List (Nat × Nat) := l.filter fun p => qN h p == q
def parts (h : Nat) (l : List (Nat × Nat)) : List (List (Nat × Nat)) := [part h l 0, part h l 1, part h l 2, part h l 3]
/-- The squares that are not empty, one level down. -/
def nextL (h : Nat) (sq : List (List (Nat × Nat))) : List (List (Nat × Nat)) := (sq.flatMap (parts h)).filter fun l => !l.isEmpty
/-- The bits of a level. -/
def bitsL (h : Nat) (sq : List (List (Nat × Nat))) : List Bool := (sq.flatMap (parts h)).map fun l => !l.isEmpty
/-- The bits of all levels, h of them. -/
def levL : Nat → List (List (Nat × Nat)) → List Bool
  | 0, _ => []
  | h + 1, sq => bitsL h sq ++ levL h (nextL h sq)
/-- Pairs as cells. -/
def pc (l : List (Nat × Nat)) : List Value := l.flatMap fun p => [.int .i64 (p.1 : Int), .int .i64 (p.2 : Int)]
theorem pc_len (l : List (Nat × Nat)) : (pc l).length = l.length * 2 := by
  induction l with
  | nil => rfl
  | cons p l ih => unfold pc at ih ⊢; rw [List.flatMap_cons, List.length_append, ih, List.length_cons]; simp; omega
theorem pc_snoc (l : List (Nat × Nat)) (p : Nat × Nat) : pc (l ++ [p]) = pc l ++ [.int .i64 (p.1 : Int), .int .i64 (p.2 : Int)] := by simp [pc]
theorem pc_append (l m : List (Nat × Nat)) : pc (l ++ m) = pc l ++ pc m := by simp [pc]
theorem pc_get {l : List (Nat × Nat)} {i : Nat} {p : Nat × Nat} (h : l[i]? = some p) : (pc l)[i * 2]? = some (.int .i64 (p.1 : Int)) ∧ (pc l)[i * 2 + 1]? = some (.int .i64 (p.2 : Int)) := by
  induction l generalizing i with
  | nil => simp at h
  | cons q l ih =>
    have e : pc (q :: l) = .int .i64 (q.1 : Int) :: .int .i64 (q.2 : Int) :: pc l := rfl
    rw [e]
    cases i with
    | zero => simp at h; subst h; simp
    | succ i =>
      rw [show (i + 1) * 2 = i * 2 + 1 + 1 by omega]
      simp only [List.getElem?_cons_succ] at h ⊢
      exact ih h
theorem oc_pc (l : List (Nat × Nat)) : ∀ u ∈ pc l, u.oneCell' = true := by
  intro u hu
  unfold pc at hu
  obtain ⟨p, _, hp⟩ := List.mem_flatMap.1 hu
  simp only [List.mem_cons, List.not_mem_nil, or_false] at hp
  rcases hp with rfl | rfl <;> rfl
theorem part_cons (h : Nat) (p : Nat × Nat) (l : List (Nat × Nat)) (q : Nat) : part h (p :: l) q = if qN h p = q then p :: part h l q else part h l q := by
  unfold part
  rw [List.filter_cons]
  by_cases hq : qN h p = q
  · rw [if_pos hq, if_pos (by simpa using hq)]
  · rw [if_neg hq, if_neg (by simpa using hq)]
theorem parts_sum (h : Nat) : ∀ l : List (Nat × Nat), (part h l 0).length + (part h l 1).length + (part h l 2).length + (part h l 3).length = l.length
  | [] => rfl
  | p :: l => by
    have ih := parts_sum h l
    have hq := qN_lt h p
    simp only [part_cons]
    rcases (show qN h p = 0 ∨ qN h p = 1 ∨ qN h p = 2 ∨ qN h p = 3 by omega) with e | e | e | e <;> rw [e] <;> simp <;> omega
theorem parts_len (h : Nat) (l : List (Nat × Nat)) : ((parts h l).filter fun l => !l.isEmpty).flatten.length = l.length ∧ ((parts h l).filter fun l => !l.isEmpty).length ≤ l.length := by
  have hs := parts_sum h l
  unfold parts
  generalize part h l 0 = a at *
  generalize part h l 1 = b at *
  generalize part h l 2 = c at *
  generalize part h l 3 = d at *
  cases a <;> cases b <;> cases c <;> cases d <;> simp at hs ⊢ <;> omega
theorem nextL_snoc (h : Nat) (sq : List (List (Nat × Nat))) (l : List (Nat × Nat)) : nextL h (sq ++ [l]) = nextL h sq ++ (parts h l).filter fun l => !l.isEmpty := by
  unfold nextL
  rw [List.flatMap_append, List.filter_append, List.flatMap_singleton]
theorem bitsL_snoc (h : Nat) (sq : List (List (Nat × Nat))) (l : List (Nat × Nat)) : bitsL h (sq ++ [l]) = bitsL h sq ++ (parts h l).map fun l => !l.isEmpty := by
  unfold bitsL
  rw [List.flatMap_append, List.map_append, List.flatMap_singleton]
theorem nextL_cons (h : Nat) (sq : List (List (Nat × Nat))) (l : List (Nat × Nat)) : nextL h (l :: sq) = ((parts h l).filter fun l => !l.isEmpty) ++ nextL h sq := by
  unfold nextL
  rw [List.flatMap_cons, List.filter_append]
theorem nextL_len (h : Nat) : ∀ sq : List (List (Nat × Nat)), (nextL h sq).flatten.length = sq.flatten.length ∧ (nextL h sq).length ≤ sq.flatten.length
  | [] => ⟨rfl, Nat.le_refl _⟩
  | l :: sq => by
    obtain ⟨h1, h2⟩ := nextL_len h sq
    obtain ⟨h3, h4⟩ := parts_len h l
    rw [nextL_cons, List.flatten_append, List.length_append, List.length_append, List.flatten_cons, List.length_append]
    omega
theorem bitsL_len (h : Nat) : ∀ sq : List (List (Nat × Nat)), (bitsL h sq).length = 4 * sq.length
  | [] => rfl
  | l :: sq => by
    have := bitsL_len h sq
    unfold bitsL at this ⊢
    rw [List.flatMap_cons, List.map_append, List.length_append, this, List.length_cons]
    unfold parts
    simp
    omega
theorem mem_part {h q : Nat} {l : List (Nat × Nat)} {p : Nat × Nat} (hp : p ∈ part h l q) : p ∈ l := (List.mem_filter.1 hp).1
theorem mem_parts {h : Nat} {l m : List (Nat × Nat)} {p : Nat × Nat} (hm : m ∈ parts h l) (hp : p ∈ m) : p ∈ l := by
  unfold parts at hm
  simp only [List.mem_cons, List.not_mem_nil, or_false] at hm
  rcases hm with rfl | rfl | rfl | rfl <;> exact mem_part hp
theorem mem_nextL {h : Nat} {sq : List (List (Nat × Nat))} {m : List (Nat × Nat)} (hm : m ∈ nextL h sq) : ∃ l ∈ sq, m ∈ parts h l := by
  unfold nextL at hm
  exact List.mem_flatMap.1 (List.mem_filter.1 hm).1
end Go.Proofs.Ytldmabkilgpgcaa
