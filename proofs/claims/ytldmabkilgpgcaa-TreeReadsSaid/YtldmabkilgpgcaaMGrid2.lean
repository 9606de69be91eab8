/-
  LAYER 15 (tree), plain: where the kids of a node stand; whether a pair is there; the pairs that bits are of.
  CONDITIONS: as each says.
-/
import Derived.Test.YtldmabkilgpgcaaGhas
namespace Go.Proofs.Ytldmabkilgpgcaa

theorem filt_idx {α : Type} {f : α → Bool} : ∀ {L : List α} {i : Nat} {x : α}, L[i]? = some x → f x = true → (L.filter f)[((L.map f).take i).count true]? = some x
  | [], _, _, h, _ => by simp at h
  | y :: L, 0, x, h, hf => by
    simp only [List.getElem?_cons_zero, Option.some.injEq] at h
    subst h
    rw [List.filter_cons, if_pos hf]
    rfl
  | y :: L, i + 1, x, h, hf => by
    simp only [List.getElem?_cons_succ] at h
    have ih := filt_idx h hf
    rw [List.filter_cons, List.map_cons, List.take_succ_cons, List.count_cons]
    by_cases hy : f y = true
    · rw [if_pos hy, hy]
      simpa using ih
    · rw [if_neg hy]
      simp only [Bool.not_eq_true] at hy
      rw [hy]
      simpa using ih
theorem flat4_at {α β : Type} {f : α → List β} (hf : ∀ x, (f x).length = 4) : ∀ {L : List α} {k q : Nat} {x : α}, L[k]? = some x → q < 4 → (L.flatMap f)[4 * k + q]? = (f x)[q]?
  | [], _, _, _, h, _ => by simp at h
  | y :: L, 0, q, x, h, hq => by
    simp only [List.getElem?_cons_zero, Option.some.injEq] at h
    subst h
    rw [List.flatMap_cons, List.getElem?_append_left (by rw [hf]; omega)]
    simp
  | y :: L, k + 1, q, x, h, hq => by
    simp only [List.getElem?_cons_succ] at h
    have ih := flat4_at hf h hq
    rw [List.flatMap_cons, List.getElem?_append_right (by rw [hf]; omega), hf, show 4 * (k + 1) + q - 4 = 4 * k + q by omega]
    exact ih
theorem parts_at (h : Nat) (l : List (Nat × Nat)) {q : Nat} (hq : q < 4) : (parts h l)[q]? = some (part h l q) := by
  rcases (show q = 0 ∨ q = 1 ∨ q = 2 ∨ q = 3 by omega) with rfl | rfl | rfl | rfl <;> rfl
theorem bits_at {a k q : Nat} {sq : List (List (Nat × Nat))} {l : List (Nat × Nat)} (h : sq[k]? = some l) (hq : q < 4) : (bitsL a sq)[4 * k + q]? = some (!(part a l q).isEmpty) := by
  unfold bitsL
  rw [List.getElem?_map, flat4_at (f := parts a) (fun x => rfl) h hq, parts_at a l hq]
  rfl
theorem next_at {a k q : Nat} {sq : List (List (Nat × Nat))} {l : List (Nat × Nat)} (h : sq[k]? = some l) (hq : q < 4) (hne : (part a l q).isEmpty = false) : (nextL a sq)[((bitsL a sq).take (4 * k + q)).count true]? = some (part a l q) := by
  unfold nextL bitsL
  exact filt_idx (by rw [flat4_at (f := parts a) (fun x => rfl) h hq, parts_at a l hq]) (by rw [hne]; rfl)
theorem bits_count (a : Nat) (sq : List (List (Nat × Nat))) : (bitsL a sq).count true = (nextL a sq).length := by
  unfold bitsL nextL
  generalize sq.flatMap (parts a) = L
  induction L with
  | nil => rfl
  | cons x L ih =>
    rw [List.map_cons, List.count_cons, ih, List.filter_cons]
    cases x.isEmpty <;> simp
/-- What stands behind some bits: nodes' bits, as many ones as there are nodes so far and at this level, but one. -/
def Ahead (pre : List Bool) (off n : Nat) : Prop := pre.length = 4 * off ∧ pre.count true + 1 = off + n
theorem Ahead.next {pre : List Bool} {off : Nat} {sq : List (List (Nat × Nat))} (a : Nat) (h : Ahead pre off sq.length) : Ahead (pre ++ bitsL a sq) (off + sq.length) (nextL a sq).length := by
  obtain ⟨h1, h2⟩ := h
  exact ⟨by rw [List.length_append, bitsL_len, h1]; omega, by rw [List.count_append, bits_count]; omega⟩
/-- A node's quarter: is it there, and its kid. -/
theorem node_at {pre : List Bool} {off a k q : Nat} {sq : List (List (Nat × Nat))} {l : List (Nat × Nat)} (hA : Ahead pre off sq.length) (h : sq[k]? = some l) (hq : q < 4) :
    thereV (pre ++ levL (a + 1) sq) ((off + k : Nat) : Int) q = !(part a l q).isEmpty ∧
    ((part a l q).isEmpty = false → ∃ c, (nextL a sq)[c]? = some (part a l q) ∧ kidV (pre ++ levL (a + 1) sq) ((off + k : Nat) : Int) q = if a = 0 then 0 else off + sq.length + c) := by
  obtain ⟨hA1, hA2⟩ := hA
  have hk : k < sq.length := (List.getElem?_eq_some_iff.1 h).1
  have hlev : levL (a + 1) sq = bitsL a sq ++ levL a (nextL a sq) := rfl
  have hbl := bitsL_len a sq
  have hlen : (pre ++ levL (a + 1) sq).length = 4 * off + (4 * sq.length + (levL a (nextL a sq)).length) := by rw [hlev, List.length_append, List.length_append, hbl, hA1]
  have hpos : (pre ++ levL (a + 1) sq)[4 * (off + k) + q]? = some (!(part a l q).isEmpty) := by
    rw [hlev, List.getElem?_append_right (by omega), hA1, show 4 * (off + k) + q - 4 * off = 4 * k + q by omega, List.getElem?_append_left (by omega)]
    exact bits_at h hq
  have hth : thereV (pre ++ levL (a + 1) sq) ((off + k : Nat) : Int) q = !(part a l q).isEmpty := by
    unfold thereV
    rw [hlen, if_pos ⟨Int.natCast_nonneg _, by omega⟩, Int.toNat_natCast, List.getD_eq_getElem?_getD, hpos]
    rfl
  refine ⟨hth, fun hne => ⟨_, next_at h hq hne, ?_⟩⟩
  unfold kidV
  rw [hth, hne]
  simp only [Bool.not_false, if_true, Int.toNat_natCast]
  have hcnt : cntI (pre ++ levL (a + 1) sq) (4 * (off + k) + q) + 1 = off + sq.length + ((bitsL a sq).take (4 * k + q)).count true := by
    unfold cntI
    rw [hlev, List.take_append, List.take_of_length_le (by omega), hA1, show 4 * (off + k) + q - 4 * off = 4 * k + q by omega, List.take_append_of_le_length (by omega), List.count_append]
    omega
  rw [hcnt, hlen]
  obtain ⟨hc, _⟩ := List.getElem?_eq_some_iff.1 (next_at h hq hne)
  rcases Nat.eq_zero_or_pos a with rfl | ha
  · rw [if_pos (by unfold levL; simp; omega), if_pos rfl]
  · obtain ⟨b, rfl⟩ : ∃ b, a = b + 1 := ⟨a - 1, by omega⟩
    have : (levL (b + 1) (nextL (b + 1) sq)).length ≥ 4 * (nextL (b + 1) sq).length := by
      unfold levL
      rw [List.length_append, bitsL_len]
      omega
    rw [if_neg (by omega), if_neg (by omega)]
/-- Do two pairs lie in the same square, so many halvings above cells? -/
def like (a : Nat) (p p' : Nat × Nat) : Prop := p'.1 % 2 ^ a = p.1 % 2 ^ a ∧ p'.2 % 2 ^ a = p.2 % 2 ^ a
theorem mod_succ (x y a : Nat) : x % 2 ^ (a + 1) = y % 2 ^ (a + 1) ↔ x / 2 ^ a % 2 = y / 2 ^ a % 2 ∧ x % 2 ^ a = y % 2 ^ a := by
  have e : ∀ z : Nat, z % 2 ^ (a + 1) = 2 ^ a * (z / 2 ^ a % 2) + z % 2 ^ a := fun z => by
    rw [Nat.pow_succ, Nat.mod_mul, Nat.add_comm]
  have hp : 0 < 2 ^ a := Nat.pow_pos (by omega)
  have hx := Nat.mod_lt x hp
  have hy := Nat.mod_lt y hp
  rw [e, e]
  constructor
  · intro h
    have h1 : (2 ^ a * (x / 2 ^ a % 2) + x % 2 ^ a) / 2 ^ a = (2 ^ a * (y / 2 ^ a % 2) + y % 2 ^ a) / 2 ^ a := by rw [h]
    rw [Nat.mul_add_div hp, Nat.mul_add_div hp, Nat.div_eq_of_lt hx, Nat.div_eq_of_lt hy] at h1
    refine ⟨by omega, ?_⟩
    rw [show x / 2 ^ a % 2 = y / 2 ^ a % 2 by omega] at h
    omega
  · rintro ⟨h1, h2⟩
    rw [h1, h2]
theorem like_succ {a : Nat} {p p' : Nat × Nat} : like (a + 1) p p' ↔ qN a p' = qN a p ∧ like a p p' := by
  unfold like qN
  rw [mod_succ, mod_succ]
  generalize p'.1 / 2 ^ a = u
  generalize p'.2 / 2 ^ a = v
  generalize p.1 / 2 ^ a = s
  generalize p.2 / 2 ^ a = t
  constructor
  · rintro ⟨⟨h1, h2⟩, h3, h4⟩
    exact ⟨by omega, h2, h4⟩
  · rintro ⟨h1, h2, h4⟩
    exact ⟨⟨by omega, h2⟩, by omega, h4⟩
/-- Has, from a node on. -/
theorem hasW_iff : ∀ (a : Nat) (pre : List Bool) (off k : Nat) (sq : List (List (Nat × Nat))) (l : List (Nat × Nat)) (p : Nat × Nat), Ahead pre off sq.length → sq[k]? = some l → l ≠ [] → (hasW (pre ++ levL a sq) a (off + k) p = true ↔ ∃ p' ∈ l, like a p p')
  | 0, pre, off, k, sq, l, p, _, _, hne => by
    obtain ⟨x, l', rfl⟩ := List.exists_cons_of_ne_nil hne
    exact ⟨fun _ => ⟨x, by simp, by unfold like; simp [Nat.mod_one]⟩, fun _ => rfl⟩
  | a + 1, pre, off, k, sq, l, p, hA, h, hne => by
    obtain ⟨h1, h2⟩ := node_at (a := a) hA h (qN_lt a p)
    unfold hasW
    rw [h1]
    by_cases he : (part a l (qN a p)).isEmpty = true
    · rw [he]
      simp only [Bool.not_true, Bool.false_eq_true, if_false, false_iff]
      rintro ⟨p', hp', hl⟩
      rw [like_succ] at hl
      rw [List.isEmpty_iff] at he
      have : p' ∈ part a l (qN a p) := List.mem_filter.2 ⟨hp', by simpa using hl.1⟩
      rw [he] at this
      cases this
    · simp only [Bool.not_eq_true] at he
      obtain ⟨c, hc, hk⟩ := h2 he
      have hne' : part a l (qN a p) ≠ [] := fun e => by rw [e] at he; simp at he
      rw [he, hk]
      simp only [Bool.not_false, if_true]
      have hmem : (∃ p' ∈ l, like (a + 1) p p') ↔ ∃ p' ∈ part a l (qN a p), like a p p' := by
        constructor
        · rintro ⟨p', hp', hl⟩
          rw [like_succ] at hl
          exact ⟨p', List.mem_filter.2 ⟨hp', by simpa using hl.1⟩, hl.2⟩
        · rintro ⟨p', hp', hl⟩
          obtain ⟨m1, m2⟩ := List.mem_filter.1 hp'
          exact ⟨p', m1, like_succ.2 ⟨by simpa using m2, hl⟩⟩
      rw [hmem]
      rcases Nat.eq_zero_or_pos a with rfl | ha
      · obtain ⟨x, l', e⟩ := List.exists_cons_of_ne_nil hne'
        exact ⟨fun _ => ⟨x, by rw [e]; simp, by unfold like; simp [Nat.mod_one]⟩, fun _ => rfl⟩
      · rw [if_neg (by omega), show pre ++ levL (a + 1) sq = (pre ++ bitsL a sq) ++ levL a (nextL a sq) by rw [List.append_assoc]; rfl]
        exact hasW_iff a _ _ c _ _ p (hA.next a) hc hne'
/-- Is a pair there: just if it is one of those. -/
theorem has_iff {h : Nat} {l : List (Nat × Nat)} {p : Nat × Nat} (hl : ∀ x ∈ l, x.1 < 2 ^ h ∧ x.2 < 2 ^ h) (hp : p.1 < 2 ^ h ∧ p.2 < 2 ^ h) (h1 : 1 ≤ h) : hasW (levL h [l]) h 0 p = true ↔ p ∈ l := by
  rcases l with _ | ⟨x, l'⟩
  · obtain ⟨a, rfl⟩ : ∃ a, h = a + 1 := ⟨h - 1, by omega⟩
    have hn := (node_at (a := a) (pre := []) (off := 0) (k := 0) (sq := [[]]) ⟨rfl, rfl⟩ rfl (qN_lt a p)).1
    unfold hasW
    rw [List.nil_append] at hn
    rw [show ((0 + 0 : Nat) : Int) = ((0 : Nat) : Int) from rfl] at hn
    rw [hn]
    simp [part]
  · have := hasW_iff h [] 0 0 [x :: l'] (x :: l') p ⟨rfl, rfl⟩ rfl (by simp)
    rw [List.nil_append] at this
    rw [this]
    constructor
    · rintro ⟨p', hp', h1, h2⟩
      obtain ⟨a, b⟩ := hl p' hp'
      rw [Nat.mod_eq_of_lt a, Nat.mod_eq_of_lt hp.1] at h1
      rw [Nat.mod_eq_of_lt b, Nat.mod_eq_of_lt hp.2] at h2
      rwa [show p = p' from Prod.ext h1.symm h2.symm]
    · exact fun hm => ⟨p, hm, rfl, rfl⟩
end Go.Proofs.Ytldmabkilgpgcaa
