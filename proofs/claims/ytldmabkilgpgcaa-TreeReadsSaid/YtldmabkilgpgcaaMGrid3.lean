/-
  LAYER 15 (tree), plain: the pairs that bits are of, level by level; the bits hang on the set of pairs alone.
  CONDITIONS: as each says.
-/
import Derived.Test.YtldmabkilgpgcaaMGrid2
namespace Go.Proofs.Ytldmabkilgpgcaa

/-- Rows that go together. -/
inductive Tog {α β : Type} (R : α → β → Prop) : List α → List β → Prop
  | nil : Tog R [] []
  | cons {a b l m} : R a b → Tog R l m → Tog R (a :: l) (b :: m)
theorem Tog.app {α β : Type} {R : α → β → Prop} {l l' : List α} {m m' : List β} (h : Tog R l m) (h' : Tog R l' m') : Tog R (l ++ l') (m ++ m') := by
  induction h with
  | nil => exact h'
  | cons hr _ ih => exact .cons hr ih
theorem Tog.len {α β : Type} {R : α → β → Prop} {l : List α} {m : List β} (h : Tog R l m) : l.length = m.length := by
  induction h with
  | nil => rfl
  | cons _ _ ih => simp [ih]
theorem Tog.left {α β : Type} {R : α → β → Prop} {l : List α} {m : List β} (h : Tog R l m) {a : α} (ha : a ∈ l) : ∃ b ∈ m, R a b := by
  induction h with
  | nil => cases ha
  | cons hr _ ih =>
    rcases List.mem_cons.1 ha with rfl | ha
    · exact ⟨_, by simp, hr⟩
    · obtain ⟨b, hb, h⟩ := ih ha
      exact ⟨b, by simp [hb], h⟩
theorem Tog.right {α β : Type} {R : α → β → Prop} {l : List α} {m : List β} (h : Tog R l m) {b : β} (hb : b ∈ m) : ∃ a ∈ l, R a b := by
  induction h with
  | nil => cases hb
  | cons hr _ ih =>
    rcases List.mem_cons.1 hb with rfl | hb
    · exact ⟨_, by simp, hr⟩
    · obtain ⟨a, ha, h⟩ := ih hb
      exact ⟨a, by simp [ha], h⟩
/-- The same pairs, in whatever order, however often. -/
def SameS (l l' : List (Nat × Nat)) : Prop := ∀ p, p ∈ l ↔ p ∈ l'
theorem SameS.part {l l' : List (Nat × Nat)} (h : SameS l l') (a q : Nat) : SameS (part a l q) (part a l' q) := fun p => by
  unfold Go.Proofs.Ytldmabkilgpgcaa.part
  rw [List.mem_filter, List.mem_filter, h p]
theorem SameS.empty {l l' : List (Nat × Nat)} (h : SameS l l') : l.isEmpty = l'.isEmpty := by
  rcases l with _ | ⟨x, l⟩ <;> rcases l' with _ | ⟨y, l'⟩
  · rfl
  · exact absurd ((h y).2 (by simp)) (by simp)
  · exact absurd ((h x).1 (by simp)) (by simp)
  · rfl
theorem tog_flat {sq sq' : List (List (Nat × Nat))} (h : Tog SameS sq sq') (a : Nat) : Tog SameS (sq.flatMap (parts a)) (sq'.flatMap (parts a)) := by
  induction h with
  | nil => exact .nil
  | cons hr _ ih =>
    rw [List.flatMap_cons, List.flatMap_cons]
    exact Tog.app (.cons (hr.part a 0) (.cons (hr.part a 1) (.cons (hr.part a 2) (.cons (hr.part a 3) .nil)))) ih
theorem tog_next {sq sq' : List (List (Nat × Nat))} (h : Tog SameS sq sq') (a : Nat) : Tog SameS (nextL a sq) (nextL a sq') ∧ bitsL a sq = bitsL a sq' := by
  have := tog_flat h a
  unfold nextL bitsL
  generalize sq.flatMap (parts a) = L at this
  generalize sq'.flatMap (parts a) = L' at this
  induction this with
  | nil => exact ⟨.nil, rfl⟩
  | cons hr _ ih =>
    rw [List.filter_cons, List.filter_cons, List.map_cons, List.map_cons, hr.empty, ih.2]
    refine ⟨?_, rfl⟩
    split
    · exact .cons hr ih.1
    · exact ih.1
theorem lev_same : ∀ (h : Nat) {sq sq' : List (List (Nat × Nat))}, Tog SameS sq sq' → levL h sq = levL h sq'
  | 0, _, _, _ => rfl
  | h + 1, _, _, ht => by
    obtain ⟨h1, h2⟩ := tog_next ht h
    unfold levL
    rw [h2, lev_same h h1]
/-- A kid's place. -/
def kidC (c : Nat × Nat) (q : Nat) : Nat × Nat := (2 * c.1 + q / 2, 2 * c.2 + q % 2)
/-- The kids' places, of places and their bits. -/
def kidsC : List (Nat × Nat) → List Bool → List (Nat × Nat)
  | [], _ => []
  | c :: C, bs => (([0, 1, 2, 3].filter fun q => bs.getD q false).map (kidC c)) ++ kidsC C (bs.drop 4)
/-- The places that bits are of, so many levels. -/
def growB : Nat → List Bool → List (Nat × Nat) → Option (List (Nat × Nat))
  | 0, _, C => some C
  | a + 1, bs, C => if bs.length < 4 * C.length then none else growB a (bs.drop (4 * C.length)) (kidsC C bs)
/-- The last level's squares. -/
def sqF : Nat → List (List (Nat × Nat)) → List (List (Nat × Nat))
  | 0, sq => sq
  | a + 1, sq => sqF a (nextL a sq)
/-- All pairs of a square lie at its place. -/
def AtC (a : Nat) (c : Nat × Nat) (l : List (Nat × Nat)) : Prop := ∀ p ∈ l, p.1 / 2 ^ a = c.1 ∧ p.2 / 2 ^ a = c.2
theorem AtC.kid {a q : Nat} {c : Nat × Nat} {l : List (Nat × Nat)} (h : AtC (a + 1) c l) : AtC a (kidC c q) (part a l q) := fun p hp => by
  obtain ⟨hm, hqn⟩ := List.mem_filter.1 hp
  obtain ⟨h1, h2⟩ := h p hm
  rw [Nat.pow_succ, ← Nat.div_div_eq_div_mul] at h1 h2
  have hqn' : qN a p = q := by simpa using hqn
  unfold qN at hqn'
  unfold kidC
  generalize p.1 / 2 ^ a = u at *
  generalize p.2 / 2 ^ a = v at *
  simp only
  omega
theorem kids_tog {a : Nat} {r : List Bool} : ∀ {C : List (Nat × Nat)} {sq : List (List (Nat × Nat))}, Tog (AtC (a + 1)) C sq → Tog (AtC a) (kidsC C (bitsL a sq ++ r)) (nextL a sq)
  | _, _, .nil => .nil
  | _, _, .cons (a := c) (b := l) (l := C) (m := sq) hr ht => by
    have ih := kids_tog (r := r) ht
    have e0 := hr.kid (q := 0)
    have e1 := hr.kid (q := 1)
    have e2 := hr.kid (q := 2)
    have e3 := hr.kid (q := 3)
    rw [nextL_cons]
    have hb : bitsL a (l :: sq) ++ r = (!(part a l 0).isEmpty) :: (!(part a l 1).isEmpty) :: (!(part a l 2).isEmpty) :: (!(part a l 3).isEmpty) :: (bitsL a sq ++ r) := by
      unfold bitsL
      rw [List.flatMap_cons]
      rfl
    rw [hb]
    unfold kidsC parts
    refine Tog.app ?_ ih
    simp only [List.filter_cons, List.filter_nil, List.getD_cons_zero, List.getD_cons_succ]
    cases (part a l 0).isEmpty <;> cases (part a l 1).isEmpty <;> cases (part a l 2).isEmpty <;> cases (part a l 3).isEmpty <;> simp <;> first | exact .nil | exact .cons (by assumption) .nil | exact .cons (by assumption) (.cons (by assumption) .nil) | exact .cons (by assumption) (.cons (by assumption) (.cons (by assumption) .nil)) | exact .cons (by assumption) (.cons (by assumption) (.cons (by assumption) (.cons (by assumption) .nil)))
/-- The bits of a tree are those of its squares' places. -/
theorem grow_lev : ∀ (h : Nat) (C : List (Nat × Nat)) (sq : List (List (Nat × Nat))) (r : List Bool), Tog (AtC h) C sq → ∃ w, growB h (levL h sq ++ r) C = some w ∧ Tog (AtC 0) w (sqF h sq)
  | 0, C, sq, _, ht => ⟨C, rfl, ht⟩
  | h + 1, C, sq, r, ht => by
    have hl := bitsL_len h sq
    have hc := ht.len
    have e : levL (h + 1) sq ++ r = bitsL h sq ++ (levL h (nextL h sq) ++ r) := by rw [← List.append_assoc]; rfl
    obtain ⟨w, h1, h2⟩ := grow_lev h _ _ r (kids_tog (r := levL h (nextL h sq) ++ r) ht)
    refine ⟨w, ?_, h2⟩
    unfold growB
    rw [e, if_neg (by rw [List.length_append]; omega), show 4 * C.length = (bitsL h sq).length by omega, List.drop_left]
    exact h1
/-- The pairs in squares stay. -/
theorem next_mem (a : Nat) (sq : List (List (Nat × Nat))) (p : Nat × Nat) : (∃ l ∈ nextL a sq, p ∈ l) ↔ ∃ l ∈ sq, p ∈ l := by
  constructor
  · rintro ⟨m, hm, hp⟩
    obtain ⟨l, hl, h⟩ := mem_nextL hm
    exact ⟨l, hl, mem_parts h hp⟩
  · rintro ⟨l, hl, hp⟩
    have hm : p ∈ part a l (qN a p) := List.mem_filter.2 ⟨hp, by simp⟩
    refine ⟨part a l (qN a p), ?_, hm⟩
    unfold nextL
    rw [List.mem_filter, List.mem_flatMap]
    refine ⟨⟨l, hl, List.mem_of_getElem? (parts_at a l (qN_lt a p))⟩, ?_⟩
    cases h : (part a l (qN a p)).isEmpty
    · rfl
    · rw [List.isEmpty_iff] at h
      rw [h] at hm
      cases hm
theorem sqF_mem : ∀ (h : Nat) (sq : List (List (Nat × Nat))) (p : Nat × Nat), (∃ l ∈ sqF h sq, p ∈ l) ↔ ∃ l ∈ sq, p ∈ l
  | 0, _, _ => Iff.rfl
  | h + 1, sq, p => (sqF_mem h _ p).trans (next_mem h sq p)
theorem sqF_ne : ∀ (h : Nat) (sq : List (List (Nat × Nat))), (∀ l ∈ sq, l ≠ []) → ∀ l ∈ sqF h sq, l ≠ []
  | 0, _, h, l, hl => h l hl
  | h + 1, sq, _, l, hl => sqF_ne h (nextL h sq) (fun m hm => by
      unfold nextL at hm
      have := (List.mem_filter.1 hm).2
      intro e
      rw [e] at this
      cases this) l hl
theorem sqF_ne1 {h : Nat} (h1 : 1 ≤ h) (sq : List (List (Nat × Nat))) : ∀ l ∈ sqF h sq, l ≠ [] := by
  obtain ⟨a, rfl⟩ : ∃ a, h = a + 1 := ⟨h - 1, by omega⟩
  exact sqF_ne a (nextL a sq) (fun m hm => by
      unfold nextL at hm
      have := (List.mem_filter.1 hm).2
      intro e
      rw [e] at this
      cases this)
/-- How many ones there are. -/
theorem lev_count : ∀ (h : Nat) (sq : List (List (Nat × Nat))), (levL h sq).length % 4 = 0 ∧ (levL h sq).count true + sq.length = (levL h sq).length / 4 + (sqF h sq).length
  | 0, _ => ⟨rfl, by simp [levL, sqF]⟩
  | h + 1, sq => by
    obtain ⟨i1, i2⟩ := lev_count h (nextL h sq)
    unfold levL sqF
    rw [List.length_append, List.count_append, bitsL_len, bits_count]
    omega
theorem lev_len4 {h : Nat} (h1 : 1 ≤ h) (l : List (Nat × Nat)) : 4 ≤ (levL h [l]).length := by
  obtain ⟨a, rfl⟩ : ∃ a, h = a + 1 := ⟨h - 1, by omega⟩
  unfold levL
  rw [List.length_append, bitsL_len]
  simp
theorem k_all {h : Nat} (h1 : 1 ≤ h) (l : List (Nat × Nat)) : (levL h [l]).length / 4 - 1 ≤ (levL h [l]).count true ∧ kOf (levL h [l]) = (sqF h [l]).length := by
  obtain ⟨_, i2⟩ := lev_count h [l]
  have := lev_len4 h1 l
  unfold kOf
  simp only [List.length_cons, List.length_nil] at i2
  omega
theorem kids_mem : ∀ {C : List (Nat × Nat)} {bs : List Bool} {x : Nat × Nat}, x ∈ kidsC C bs → (x.1 / 2, x.2 / 2) ∈ C
  | [], _, _, h => by cases h
  | c :: C, bs, x, h => by
    unfold kidsC at h
    rcases List.mem_append.1 h with h | h
    · obtain ⟨q, hq, rfl⟩ := List.mem_map.1 h
      have hq4 : q < 4 := by
        have := (List.mem_filter.1 hq).1
        simp only [List.mem_cons, List.not_mem_nil, or_false] at this
        omega
      unfold kidC
      simp only [List.mem_cons]
      left
      apply Prod.ext <;> simp only <;> omega
    · exact List.mem_cons_of_mem _ (kids_mem h)
theorem kidC_inj {c : Nat × Nat} {q q' : Nat} (h : kidC c q = kidC c q') : q = q' := by
  unfold kidC at h
  injection h with h1 h2
  omega
theorem kids_nodup : ∀ {C : List (Nat × Nat)} {bs : List Bool}, C.Nodup → (kidsC C bs).Nodup
  | [], _, _ => List.nodup_nil
  | c :: C, bs, h => by
    rw [List.nodup_cons] at h
    unfold kidsC
    rw [List.nodup_append]
    refine ⟨?_, kids_nodup h.2, fun x hx y hy e => ?_⟩
    · have h4 : ([0, 1, 2, 3].filter fun q => bs.getD q false).Nodup := List.Pairwise.filter _ (show [0, 1, 2, 3].Nodup by decide)
      have hlt : ∀ q ∈ ([0, 1, 2, 3].filter fun q => bs.getD q false), q < 4 := fun q hq => by
        have := (List.mem_filter.1 hq).1
        simp only [List.mem_cons, List.not_mem_nil, or_false] at this
        omega
      generalize ([0, 1, 2, 3].filter fun q => bs.getD q false) = Q at h4 hlt
      induction Q with
      | nil => exact List.nodup_nil
      | cons q Q ih =>
        rw [List.nodup_cons] at h4
        rw [List.map_cons, List.nodup_cons]
        refine ⟨fun hm => ?_, ih h4.2 (fun x hx => hlt x (by simp [hx]))⟩
        obtain ⟨q', hq', e⟩ := List.mem_map.1 hm
        have := kidC_inj e
        exact h4.1 (this ▸ hq')
    · subst e
      have h1 := kids_mem hy
      obtain ⟨q, hq, rfl⟩ := List.mem_map.1 hx
      have hq4 : q < 4 := by
        have := (List.mem_filter.1 hq).1
        simp only [List.mem_cons, List.not_mem_nil, or_false] at this
        omega
      have : ((kidC c q).1 / 2, (kidC c q).2 / 2) = c := by
        unfold kidC
        apply Prod.ext <;> simp only <;> omega
      rw [this] at h1
      exact h.1 h1
theorem grow_nodup : ∀ {h : Nat} {bs : List Bool} {C w : List (Nat × Nat)}, growB h bs C = some w → C.Nodup → w.Nodup
  | 0, _, _, _, e, h => by unfold growB at e; injection e with e; exact e ▸ h
  | a + 1, bs, C, w, e, h => by
    unfold growB at e
    split at e
    · cases e
    · exact grow_nodup e (kids_nodup h)
/-- A TREE's BITS are those of just its pairs, each once. -/
theorem grow_tree {h : Nat} (h1 : 1 ≤ h) {l : List (Nat × Nat)} (hl : ∀ p ∈ l, p.1 < 2 ^ h ∧ p.2 < 2 ^ h) (r : List Bool) : ∃ w, growB h (levL h [l] ++ r) [(0, 0)] = some w ∧ SameS w l ∧ w.Nodup ∧ w.length = kOf (levL h [l]) := by
  obtain ⟨w, hw, ht⟩ := grow_lev h [(0, 0)] [l] r (.cons (fun p hp => ⟨Nat.div_eq_of_lt (hl p hp).1, Nat.div_eq_of_lt (hl p hp).2⟩) .nil)
  refine ⟨w, hw, fun p => ?_, grow_nodup hw (by simp), by rw [ht.len, (k_all h1 l).2]⟩
  have hm := sqF_mem h [l] p
  simp only [List.mem_singleton, exists_eq_left] at hm
  rw [← hm]
  constructor
  · intro hp
    obtain ⟨m, hm, ha⟩ := ht.left hp
    obtain ⟨x, m', rfl⟩ := List.exists_cons_of_ne_nil (sqF_ne1 h1 [l] m hm)
    have := ha x (by simp)
    simp only [Nat.pow_zero, Nat.div_one] at this
    exact ⟨_, hm, by rw [show p = x from Prod.ext this.1.symm this.2.symm]; simp⟩
  · rintro ⟨m, hm, hp⟩
    obtain ⟨c, hc, ha⟩ := ht.right hm
    have := ha p hp
    simp only [Nat.pow_zero, Nat.div_one] at this
    rwa [show p = c from Prod.ext this.1 this.2]
end Go.Proofs.Ytldmabkilgpgcaa
